/- Ground 9. -/
import Derived.Test.YtgfencjehdbjcaaGreatDoorM8

set_option linter.unusedVariables false
set_option linter.unusedSimpArgs false
set_option maxRecDepth 100000
namespace Go.Proofs.YtgfencjehdbjcaaGreatDoor
open Go

theorem c_Parse : callable Tryz.prog 37 = true := by kernel_rfl
def bodyQ (s : List UInt8) : List UInt8 := if headB 45 s = true then s.tail else s
theorem parseQ_alt (s : List UInt8) : headB 45 (firstQ s) = headB 45 s ∧ digsQ s = firstQ (bodyQ s) ∧ ((findB 47 s = none ∧ findB 47 (bodyQ s) = none) ∨ ∃ i j, findB 47 s = some i ∧ findB 47 (bodyQ s) = some j ∧ s.drop (i + 1) = (bodyQ s).drop (j + 1)) := by
  cases s with
  | nil => simp [firstQ, findB, headB, digsQ, bodyQ]
  | cons c cs =>
    by_cases hc : c = 45
    · subst hc
      have e1 : findB 47 (45 :: cs) = (findB 47 cs).map (· + 1) := by simp [findB]
      have e2 : bodyQ (45 :: cs) = cs := by simp [bodyQ, headB]
      rw [e2, e1]
      cases hf : findB 47 cs with
      | none => simp [firstQ, e1, hf, headB, digsQ]
      | some j => simp [firstQ, e1, hf, headB, digsQ]
    · have e2 : bodyQ (c :: cs) = c :: cs := by simp [bodyQ, headB, hc]
      have e3 : headB 45 (c :: cs) = false := by simp [headB, hc]
      rw [e2, e3]
      have e4 : headB 45 (firstQ (c :: cs)) = false := by
        simp only [firstQ]
        cases hf : findB 47 (c :: cs) with
        | none => exact e3
        | some i => cases i with
          | zero => simp [headB]
          | succ i => simp [headB, hc]
      refine ⟨e4, by simp [digsQ, e4], ?_⟩
      cases hf : findB 47 (c :: cs) with
      | none => exact .inl ⟨rfl, rfl⟩
      | some i => exact .inr ⟨i, i, rfl, rfl, rfl⟩
theorem splitM_find (s : List UInt8) : (findB 47 s = none ∧ splitM 47 s = [s]) ∨ ∃ j, findB 47 s = some j ∧ splitM 47 s = s.take j :: splitM 47 (s.drop (j + 1)) := by
 cases hf : findB 47 s with
 | none => exact .inl ⟨rfl, splitM_end (findB_none hf)⟩
 | some j =>
  obtain ⟨h1, h2, h3⟩ := findB_lt hf
  refine .inr ⟨j, rfl, ?_⟩
  have : s = s.take j ++ 47 :: s.drop (j + 1) := by rw [← drop_cons h2, List.take_append_drop]
  conv => lhs; rw [this, splitM_seg h3]
theorem tok_noslash {s : List UInt8} (h : tokD s = true) : findB 47 s = none := by
 cases hf : findB 47 s with
 | none => rfl
 | some j =>
  obtain ⟨h1, h2, h3⟩ := findB_lt hf
  have := (tok_len h).2.2 47 (List.mem_of_getElem? h2)
  simp [isDig] at this
def ratS (q : Qd) : AV := .agg [.bool q.1, natS q.2.1, natS q.2.2]
@[simp] theorem ratS_pure (q : Qd) : (ratS q).pure = true := by simp [ratS, AV.pure, AV.pureL]
def parseV (s : List UInt8) : AV := match parseQ s with | some q => .tup [ratS q, .bool true] | none => .tup [zrI, .bool false]
theorem el_sRatS {b : Bool} {t t' : Nat} {xs sp xs' sp' : List AV} {ex ex' : Bool} : AV.el Tryz.prog 39 (.agg [.bool b, .sl t xs sp ex, .sl t' xs' sp' ex']) = true := by simp [AV.el, s_sRat, AV.cells, AV.one]
theorem el_sRat0 {b : Bool} : AV.el Tryz.prog 39 (.agg [.bool b, .nil, .nil]) = true := by simp [AV.el, s_sRat, AV.cells, AV.one]
theorem el_int64S {t : Nat} {xs sp : List AV} {ex : Bool} : AV.el Tryz.prog 37 (.sl t xs sp ex) = true := by simp [AV.el, s_int64s, AV.cells, AV.one]
theorem ld_sRat {b c d : AV} : ldA Tryz.prog 39 (.agg [b, c, d]) 0 = some (.agg [b, c, d]) := by simp [ldA, partA, g_sRat, s_sRat, AV.cells]
attribute [go_sem] el_sRatS el_sRat0 el_int64S ld_sRat
theorem oneS : natS 1 = .sl 2 [.int .i64 1] [] false := by
 rw [natS, enc_pos B9_gt (by decide), show 1 / B9 = 0 from rfl, enc_zero]; rfl
theorem s_Parse (s : List UInt8) (hs : s.length ≤ 1000000) : CallOk Tryz.prog 37 [.str s] (parseV s) [] := by
  obtain ⟨hneg, hdg, hfind⟩ := parseQ_alt s
  have hpq : parseQ s = if tokD (firstQ (bodyQ s)) = true ∧ ¬ (headB 45 s = true ∧ dval (firstQ (bodyQ s)) = 0) then
    match findB 47 (bodyQ s) with
    | none => some (headB 45 s, dval (firstQ (bodyQ s)), 1)
    | some i => if tokD ((bodyQ s).drop (i + 1)) = true ∧ 1 < dval ((bodyQ s).drop (i + 1)) ∧ Nat.gcd (dval (firstQ (bodyQ s))) (dval ((bodyQ s).drop (i + 1))) = 1 then some (headB 45 s, dval (firstQ (bodyQ s)), dval ((bodyQ s).drop (i + 1))) else none
  else none := by
    rw [parseQ, hneg, hdg]
    rcases hfind with ⟨a, b⟩ | ⟨i, j, a, b, c⟩
    · simp only [a, b]
    · simp only [a, b, c]
  clear hneg hdg hfind
  obtain ⟨B, hB⟩ : ∃ B, bodyQ s = B := ⟨_, rfl⟩
  have hBl : B.length ≤ s.length := by rw [← hB]; unfold bodyQ; split <;> simp
  have hCut := s_Cut B 47 (by omega)
  obtain ⟨D, hD⟩ : ∃ D, firstQ B = D := ⟨_, rfl⟩
  have hDl : D.length ≤ B.length := by rw [← hD]; unfold firstQ; split <;> simp; omega
  have hsplit := splitM_find B
  obtain ⟨P1, hP1, hP⟩ : ∃ P1, splitM 47 B = D :: P1 ∧ ((findB 47 B = none ∧ P1 = []) ∨ ∃ j, findB 47 B = some j ∧ P1 = splitM 47 (B.drop (j + 1))) := by
    rcases hsplit with ⟨a, b⟩ | ⟨j, a, b⟩
    · exact ⟨[], by rw [b, ← hD, firstQ, a], .inl ⟨a, rfl⟩⟩
    · exact ⟨_, by rw [b, ← hD, firstQ, a], .inr ⟨j, a, rfl⟩⟩
  rw [hP1] at hCut
  rw [hB, hD] at hpq
  have hdig := s_Digits D (by omega)
  have e0 : [AV.bool false, AV.nil, AV.nil].length = 3 := rfl
  have hfail : ∀ (st : St), st.fr 2 = .ptr 0 1 0 0 → (st.h 0).lv = true → (st.h 0).xs = [zrI] → st.fr 3 = .bool false → parseQ s = none → Post Tryz.prog Tryz.f37 (matL false [AV.str s] st00).2.nx (AV.flatL [AV.str s]) false (parseV s) [] .ret st := by
    intro st k2 kl kx k3 hp
    rw [parseV, hp]
    exact post_cell (x := zrI) (.inl rfl) rfl o_sRat k2 kl kx ld_sRat k3 rfl rfl
  have hgood : ∀ (st : St) (b : Bool) (x y : AV) (q : Qd), st.fr 2 = .ptr 0 1 0 0 → (st.h 0).lv = true → (st.h 0).xs = [.agg [.bool b, x, y]] → st.fr 3 = .bool true → x.pure = true → y.pure = true → Post Tryz.prog Tryz.f37 (matL false [AV.str s] st00).2.nx (AV.flatL [AV.str s]) false (.tup [.agg [.bool b, x, y], .bool true]) [] .ret st := by
    intro st b x y q k2 kl kx k3 hx hy
    exact post_cell (x := .agg [.bool b, x, y]) (.inl rfl) rfl o_sRat k2 kl kx ld_sRat k3 (by simp [AV.pure, AV.pureL, hx, hy]) rfl
  have hp0 : (D :: P1)[Int.toNat 0]? = some D := rfl
  by_cases hsnil : s = []
  · have hBn : B = [] := by rw [← hB, hsnil]; rfl
    have hDn : D = [] := by rw [← hD, hBn]; rfl
    have hPn : P1 = [] := by rw [hBn] at hP; rcases hP with ⟨_, h⟩ | ⟨j, h, _⟩; exact h; simp [findB] at h
    have htd : tokD D = false := by rw [hDn]; rfl
    rw [htd] at hpq hdig
    simp only [Bool.false_eq_true, false_and, if_false] at hpq
    have hsl : s.length = 0 := by rw [hsnil]; rfl
    rw [hBn, ← hsnil] at hCut
    (refine callOk_of_wpc (W := fun _ => false) false hm' Tryz.func37 rfl (by kernel_rfl) (Nat.le_of_ble_eq_true rfl) (go_start ?_); generalize hQ : Post Tryz.prog Tryz.f37 _ _ _ _ _ = Q; simp only [stIn, matL, matA, st00])
    simp (disch := omega) only [go_sem, Nat.reduceEqDiff, Nat.reduceBEq, ↓reduceIte, reduceCtorEq, zrI, e0, hsl]
    refine x_callP (hCut) c_sCut01 (by simp [evA, upd_app, ofVal, ofCell]) (by simp [AV.pure, AV.pureL]) (by simp [AV.pure, AV.pureL]) ?_
    simp (disch := omega) only [go_sem, Nat.reduceEqDiff, Nat.reduceBEq, ↓reduceIte, reduceCtorEq, strA_length, strA_at, hp0, hPn, List.length_cons, List.length_nil]
    rw [hPn] at hp0
    refine x_callP (hdig) c_Digits (by simp [evA, upd_app, ofVal, ofCell]) (by simp [AV.pure, AV.pureL]) (by simp [AV.pure, AV.pureL]) ?_
    simp (disch := omega) only [go_sem, Nat.reduceEqDiff, Nat.reduceBEq, ↓reduceIte, reduceCtorEq, e0, List.set_cons_zero]
    rw [← hQ]
    exact hfail _ (by simp [upd_app] <;> omega) (by simp [upd_app]) (by simp [upd_app, zrI]) (by simp [upd_app] <;> omega) hpq
  have hl0 : 0 < s.length := List.length_pos_iff.2 hsnil
  obtain ⟨c0, hc0⟩ := get_some (xs := s) (i := 0) hl0
  have hc0' : s[Int.toNat 0]? = some c0 := hc0
  have hhead : s.head? = some c0 := by rw [List.head?_eq_getElem?]; exact hc0
  have hcb := c0.toNat_lt
  have htk : tokD D = true → (enc B9 (dval D)).length ≤ 200 := fun h => by
    obtain ⟨_, b, c⟩ := tok_len h
    exact Nat.le_trans (dval_enc (by decide) c) b
  have he1 : (enc B9 1).length ≤ 1 := enc_len_le B9_gt (by decide)
  by_cases h45 : c0.toNat = 45
  · have hc45 : c0 = 45 := UInt8.toNat.inj (by rw [h45]; rfl)
    have hng : headB 45 s = true := by simp [headB, hhead, hc45]
    have hsl : (s.take s.length).drop 1 = B := by rw [← hB, bodyQ, hng, List.take_length]; simp
    have hst : s.tail = B := by rw [← hsl, List.take_length]; simp
    rw [hng] at hpq
    simp only [true_and] at hpq
    cases hP1c : decide (2 ≤ P1.length) with
    | true =>
      have hP2 : 2 ≤ P1.length := by simpa using hP1c
      have hnone : parseQ s = none := by
        rw [hpq]
        rcases hP with ⟨_, h⟩ | ⟨j, h1, h2⟩
        · rw [h] at hP2; simp at hP2
        · have : tokD (B.drop (j + 1)) = false := by
            cases ht : tokD (B.drop (j + 1)) with
            | false => rfl
            | true =>
              rcases splitM_find (B.drop (j + 1)) with ⟨_, e⟩ | ⟨k, e, _⟩
              · rw [h2, e] at hP2; simp at hP2
              · rw [tok_noslash ht] at e; cases e
          simp only [h1, this, Bool.false_eq_true, false_and, if_false, ite_self]
      (refine callOk_of_wpc (W := fun _ => false) false hm' Tryz.func37 rfl (by kernel_rfl) (Nat.le_of_ble_eq_true rfl) (go_start ?_); generalize hQ : Post Tryz.prog Tryz.f37 _ _ _ _ _ = Q; simp only [stIn, matL, matA, st00])
      simp (disch := omega) only [go_sem, Nat.reduceEqDiff, Nat.reduceBEq, ↓reduceIte, reduceCtorEq, zrI, e0, hc0', h45, hsl]
      refine x_callP (hCut) c_sCut01 (by simp [evA, upd_app, ofVal, ofCell, hst]) (by simp [AV.pure, AV.pureL]) (by simp [AV.pure, AV.pureL]) ?_
      simp (disch := omega) only [go_sem, Nat.reduceEqDiff, Nat.reduceBEq, ↓reduceIte, reduceCtorEq, strA_length, List.length_cons, e0]
      rw [← hQ]
      exact hfail _ (by simp [upd_app] <;> omega) (by simp [upd_app]) (by simp [upd_app, zrI]) (by simp [upd_app] <;> omega) hnone
    | false =>
      have hP2 : P1.length ≤ 1 := by simp at hP1c; omega
      cases htd : tokD D with
      | false =>
        rw [htd] at hpq hdig
        simp only [Bool.false_eq_true, false_and, if_false] at hpq
        (refine callOk_of_wpc (W := fun _ => false) false hm' Tryz.func37 rfl (by kernel_rfl) (Nat.le_of_ble_eq_true rfl) (go_start ?_); generalize hQ : Post Tryz.prog Tryz.f37 _ _ _ _ _ = Q; simp only [stIn, matL, matA, st00])
        simp (disch := omega) only [go_sem, Nat.reduceEqDiff, Nat.reduceBEq, ↓reduceIte, reduceCtorEq, zrI, e0, hc0', h45, hsl]
        refine x_callP (hCut) c_sCut01 (by simp [evA, upd_app, ofVal, ofCell, hst]) (by simp [AV.pure, AV.pureL]) (by simp [AV.pure, AV.pureL]) ?_
        simp (disch := omega) only [go_sem, Nat.reduceEqDiff, Nat.reduceBEq, ↓reduceIte, reduceCtorEq, strA_length, strA_at, hp0, List.length_cons]
        refine x_callP (hdig) c_Digits (by simp [evA, upd_app, ofVal, ofCell]) (by simp [AV.pure, AV.pureL]) (by simp [AV.pure, AV.pureL]) ?_
        simp (disch := omega) only [go_sem, Nat.reduceEqDiff, Nat.reduceBEq, ↓reduceIte, reduceCtorEq, e0]
        rw [← hQ]
        exact hfail _ (by simp [upd_app] <;> omega) (by simp [upd_app]) (by simp [upd_app, zrI]) (by simp [upd_app] <;> omega) hpq
      | true =>
        have htl := htk htd
        rw [htd] at hpq hdig
        simp only [true_and, if_true] at hpq
        have hNR := s_NatRead D (tok_len htd).2.2 (by omega)
        obtain ⟨v, hv⟩ : ∃ v, dval D = v := ⟨_, rfl⟩
        rw [hv] at hNR hpq htl
        by_cases hv0 : v = 0
        · subst hv0
          simp only [not_true_eq_false, if_false] at hpq
          have hz : (enc B9 0).length = 0 := by rw [enc_zero]; rfl
          (refine callOk_of_wpc (W := fun _ => false) false hm' Tryz.func37 rfl (by kernel_rfl) (Nat.le_of_ble_eq_true rfl) (go_start ?_); generalize hQ : Post Tryz.prog Tryz.f37 _ _ _ _ _ = Q; simp only [stIn, matL, matA, st00])
          simp (disch := omega) only [go_sem, Nat.reduceEqDiff, Nat.reduceBEq, ↓reduceIte, reduceCtorEq, zrI, e0, hc0', h45, hsl]
          refine x_callP (hCut) c_sCut01 (by simp [evA, upd_app, ofVal, ofCell, hst]) (by simp [AV.pure, AV.pureL]) (by simp [AV.pure, AV.pureL]) ?_
          simp (disch := omega) only [go_sem, Nat.reduceEqDiff, Nat.reduceBEq, ↓reduceIte, reduceCtorEq, strA_length, strA_at, hp0, List.length_cons]
          refine x_callP (hdig) c_Digits (by simp [evA, upd_app, ofVal, ofCell]) (by simp [AV.pure, AV.pureL]) (by simp [AV.pure, AV.pureL]) ?_
          simp (disch := omega) only [go_sem, Nat.reduceEqDiff, Nat.reduceBEq, ↓reduceIte, reduceCtorEq, strA_length, strA_at, hp0, List.length_cons]
          refine x_callP (hNR) c_NatRead (by simp [evA, upd_app, ofVal, ofCell]) (by simp [AV.pure, AV.pureL]) (by simp [AV.pure, AV.pureL]) ?_
          simp (disch := omega) only [go_sem, Nat.reduceEqDiff, Nat.reduceBEq, ↓reduceIte, reduceCtorEq, natS, hz, e0]
          rw [← hQ]
          exact hfail _ (by simp [upd_app] <;> omega) (by simp [upd_app]) (by simp [upd_app, zrI]) (by simp [upd_app] <;> omega) hpq
        rw [if_pos hv0] at hpq
        have hvp := enc_len_pos B9_gt hv0
        rcases hP with ⟨hf, rfl⟩ | ⟨j, hf, hPj⟩
        · rw [hf] at hpq
          simp only at hpq
          have hres : parseV s = .tup [ratS (true, v, 1), .bool true] := by rw [parseV, hpq]
          rw [hres]
          refine CallOk.res (r := .tup [.agg [.bool true, natS v, .sl 2 [.int .i64 1] [] true], .bool true]) ?_ (sub_tup (SubL.cons (sub_agg (SubL.cons (Sub.refl _) (SubL.cons (Sub.refl _) (SubL.cons (by rw [oneS]; exact sub_sl) .nil)))) (SubL.refl _)))
          (refine callOk_of_wpc (W := fun _ => false) false hm' Tryz.func37 rfl (by kernel_rfl) (Nat.le_of_ble_eq_true rfl) (go_start ?_); generalize hQ : Post Tryz.prog Tryz.f37 _ _ _ _ _ = Q; simp only [stIn, matL, matA, st00])
          simp (disch := omega) only [go_sem, Nat.reduceEqDiff, Nat.reduceBEq, ↓reduceIte, reduceCtorEq, zrI, e0, hc0', h45, hsl]
          refine x_callP (hCut) c_sCut01 (by simp [evA, upd_app, ofVal, ofCell, hst]) (by simp [AV.pure, AV.pureL]) (by simp [AV.pure, AV.pureL]) ?_
          simp (disch := omega) only [go_sem, Nat.reduceEqDiff, Nat.reduceBEq, ↓reduceIte, reduceCtorEq, strA_length, strA_at, hp0, List.length_cons]
          refine x_callP (hdig) c_Digits (by simp [evA, upd_app, ofVal, ofCell]) (by simp [AV.pure, AV.pureL]) (by simp [AV.pure, AV.pureL]) ?_
          simp (disch := omega) only [go_sem, Nat.reduceEqDiff, Nat.reduceBEq, ↓reduceIte, reduceCtorEq, strA_length, strA_at, hp0, List.length_cons]
          refine x_callP (hNR) c_NatRead (by simp [evA, upd_app, ofVal, ofCell]) (by simp [AV.pure, AV.pureL]) (by simp [AV.pure, AV.pureL]) ?_
          simp (disch := omega) only [go_sem, Nat.reduceEqDiff, Nat.reduceBEq, ↓reduceIte, reduceCtorEq, natS, List.length_cons, List.length_nil, e0]
          rw [← hQ]
          exact hgood _ true (natS v) (.sl 2 [.int .i64 1] [] true) (true, v, 1) (by simp [upd_app] <;> omega) (by simp [upd_app]) (by simp [upd_app, natS]) (by simp [upd_app] <;> omega) (by simp) rfl
        · rw [hf] at hpq
          simp only at hpq
          obtain ⟨e, he⟩ : ∃ e, B.drop (j + 1) = e := ⟨_, rfl⟩
          rw [he] at hpq hPj
          have hel : e.length ≤ B.length := by rw [← he]; simp
          have hPe : P1 = [e] := by
            rcases splitM_find e with ⟨_, h⟩ | ⟨k, _, h⟩
            · rw [hPj, h]
            · exfalso
              rw [hPj, h] at hP2
              have := splitM_ne 47 (e.drop (k + 1))
              cases hs' : splitM 47 (e.drop (k + 1)) with
              | nil => exact this hs'
              | cons a b => rw [hs'] at hP2; simp at hP2
          subst hPe
          have hp1 : [D, e][Int.toNat 1]? = some e := rfl
          have hdig2 := s_Digits e (by omega)
          cases hte : tokD e with
          | false =>
            rw [hte] at hpq hdig2
            simp only [Bool.false_eq_true, false_and, if_false] at hpq
            (refine callOk_of_wpc (W := fun _ => false) false hm' Tryz.func37 rfl (by kernel_rfl) (Nat.le_of_ble_eq_true rfl) (go_start ?_); generalize hQ : Post Tryz.prog Tryz.f37 _ _ _ _ _ = Q; simp only [stIn, matL, matA, st00])
            simp (disch := omega) only [go_sem, Nat.reduceEqDiff, Nat.reduceBEq, ↓reduceIte, reduceCtorEq, zrI, e0, hc0', h45, hsl]
            refine x_callP (hCut) c_sCut01 (by simp [evA, upd_app, ofVal, ofCell, hst]) (by simp [AV.pure, AV.pureL]) (by simp [AV.pure, AV.pureL]) ?_
            simp (disch := omega) only [go_sem, Nat.reduceEqDiff, Nat.reduceBEq, ↓reduceIte, reduceCtorEq, strA_length, strA_at, hp0, List.length_cons]
            refine x_callP (hdig) c_Digits (by simp [evA, upd_app, ofVal, ofCell]) (by simp [AV.pure, AV.pureL]) (by simp [AV.pure, AV.pureL]) ?_
            simp (disch := omega) only [go_sem, Nat.reduceEqDiff, Nat.reduceBEq, ↓reduceIte, reduceCtorEq, strA_length, strA_at, hp0, List.length_cons]
            refine x_callP (hNR) c_NatRead (by simp [evA, upd_app, ofVal, ofCell]) (by simp [AV.pure, AV.pureL]) (by simp [AV.pure, AV.pureL]) ?_
            simp (disch := omega) only [go_sem, Nat.reduceEqDiff, Nat.reduceBEq, ↓reduceIte, reduceCtorEq, natS, List.length_cons, List.length_nil, strA_length, strA_at, hp1]
            refine x_callP (hdig2) c_Digits (by simp [evA, upd_app, ofVal, ofCell]) (by simp [AV.pure, AV.pureL]) (by simp [AV.pure, AV.pureL]) ?_
            simp (disch := omega) only [go_sem, Nat.reduceEqDiff, Nat.reduceBEq, ↓reduceIte, reduceCtorEq, e0]
            rw [← hQ]
            exact hfail _ (by simp [upd_app] <;> omega) (by simp [upd_app]) (by simp [upd_app, zrI]) (by simp [upd_app] <;> omega) hpq
          | true =>
            have htl2 : (enc B9 (dval e)).length ≤ 200 := by
              obtain ⟨_, b, c⟩ := tok_len hte
              exact Nat.le_trans (dval_enc (by decide) c) b
            rw [hte] at hpq hdig2
            simp only [true_and] at hpq
            have hNR2 := s_NatRead e (tok_len hte).2.2 (by omega)
            obtain ⟨u, hu⟩ : ∃ u, dval e = u := ⟨_, rfl⟩
            rw [hu] at hNR2 hpq htl2
            have hcmp := (s_Cmp hm' u 1 (by omega) (by omega)).args (SubL.cons (Sub.refl _) (SubL.cons (show Sub Tryz.prog (.sl 2 [.int .i64 1] [] true) (natS 1) by rw [oneS]; exact sub_sl) .nil))
            have hgcd := s_Gcd v u (by omega) (by omega)
            by_cases hu1 : 1 < u
            · rw [cmpI_gt hu1] at hcmp
              obtain ⟨g, hg⟩ : ∃ g, Nat.gcd v u = g := ⟨_, rfl⟩
              rw [hg] at hgcd
              simp only [hg, hu1, true_and] at hpq
              have hgu : g ≤ u := by rw [← hg]; exact Nat.gcd_le_right v (by omega)
              have hgl := enc_len_mono B9_gt hgu
              have hcg := (s_Cmp hm' g 1 (by omega) (by omega)).args (SubL.cons (Sub.refl _) (SubL.cons (show Sub Tryz.prog (.sl 2 [.int .i64 1] [] true) (natS 1) by rw [oneS]; exact sub_sl) .nil))
              by_cases hg1 : g = 1
              · subst hg1
                rw [cmpI_eq] at hcg
                simp only [if_true] at hpq
                have hres : parseV s = .tup [ratS (true, v, u), .bool true] := by rw [parseV, hpq]
                rw [hres]
                (refine callOk_of_wpc (W := fun _ => false) false hm' Tryz.func37 rfl (by kernel_rfl) (Nat.le_of_ble_eq_true rfl) (go_start ?_); generalize hQ : Post Tryz.prog Tryz.f37 _ _ _ _ _ = Q; simp only [stIn, matL, matA, st00])
                simp (disch := omega) only [go_sem, Nat.reduceEqDiff, Nat.reduceBEq, ↓reduceIte, reduceCtorEq, zrI, e0, hc0', h45, hsl]
                refine x_callP (hCut) c_sCut01 (by simp [evA, upd_app, ofVal, ofCell, hst]) (by simp [AV.pure, AV.pureL]) (by simp [AV.pure, AV.pureL]) ?_
                simp (disch := omega) only [go_sem, Nat.reduceEqDiff, Nat.reduceBEq, ↓reduceIte, reduceCtorEq, strA_length, strA_at, hp0, List.length_cons]
                refine x_callP (hdig) c_Digits (by simp [evA, upd_app, ofVal, ofCell]) (by simp [AV.pure, AV.pureL]) (by simp [AV.pure, AV.pureL]) ?_
                simp (disch := omega) only [go_sem, Nat.reduceEqDiff, Nat.reduceBEq, ↓reduceIte, reduceCtorEq, strA_length, strA_at, hp0, List.length_cons]
                refine x_callP (hNR) c_NatRead (by simp [evA, upd_app, ofVal, ofCell]) (by simp [AV.pure, AV.pureL]) (by simp [AV.pure, AV.pureL]) ?_
                simp (disch := omega) only [go_sem, Nat.reduceEqDiff, Nat.reduceBEq, ↓reduceIte, reduceCtorEq, natS, List.length_cons, List.length_nil, strA_length, strA_at, hp1]
                refine x_callP (hdig2) c_Digits (by simp [evA, upd_app, ofVal, ofCell]) (by simp [AV.pure, AV.pureL]) (by simp [AV.pure, AV.pureL]) ?_
                simp (disch := omega) only [go_sem, Nat.reduceEqDiff, Nat.reduceBEq, ↓reduceIte, reduceCtorEq, strA_length, strA_at, hp1]
                refine x_callP (hNR2) c_NatRead (by simp [evA, upd_app, ofVal, ofCell]) (by simp [AV.pure, AV.pureL]) (by simp [AV.pure, AV.pureL]) ?_
                simp (disch := omega) only [go_sem, Nat.reduceEqDiff, Nat.reduceBEq, ↓reduceIte, reduceCtorEq, natS]
                refine x_callP hcmp c_Cmp (by simp [evA, upd_app, natS]) (by simp [AV.pureL, AV.pure]) rfl ?_
                simp (disch := omega) only [go_sem, Nat.reduceEqDiff, Nat.reduceBEq, ↓reduceIte, reduceCtorEq, natS]
                refine x_callP hgcd c_Gcd (by simp [evA, upd_app, natS]) (by simp [AV.pureL]) (by simp) ?_
                simp (disch := omega) only [go_sem, Nat.reduceEqDiff, Nat.reduceBEq, ↓reduceIte, reduceCtorEq, natS]
                refine x_callP hcg c_Cmp (by simp [evA, upd_app, natS]) (by simp [AV.pureL, AV.pure]) rfl ?_
                simp (disch := omega) only [go_sem, Nat.reduceEqDiff, Nat.reduceBEq, ↓reduceIte, reduceCtorEq, natS, e0]
                rw [← hQ]
                exact hgood _ true (natS v) (natS u) (true, v, u) (by simp [upd_app] <;> omega) (by simp [upd_app]) (by simp [upd_app, natS]) (by simp [upd_app] <;> omega) (by simp) (by simp)
              · have hcn : cmpI g 1 ≠ 0 := by
                  rcases Nat.lt_trichotomy g 1 with h | h | h
                  · rw [cmpI_lt h]; decide
                  · exact absurd h hg1
                  · rw [cmpI_gt h]; decide
                rw [if_neg hg1] at hpq
                (refine callOk_of_wpc (W := fun _ => false) false hm' Tryz.func37 rfl (by kernel_rfl) (Nat.le_of_ble_eq_true rfl) (go_start ?_); generalize hQ : Post Tryz.prog Tryz.f37 _ _ _ _ _ = Q; simp only [stIn, matL, matA, st00])
                simp (disch := omega) only [go_sem, Nat.reduceEqDiff, Nat.reduceBEq, ↓reduceIte, reduceCtorEq, zrI, e0, hc0', h45, hsl]
                refine x_callP (hCut) c_sCut01 (by simp [evA, upd_app, ofVal, ofCell, hst]) (by simp [AV.pure, AV.pureL]) (by simp [AV.pure, AV.pureL]) ?_
                simp (disch := omega) only [go_sem, Nat.reduceEqDiff, Nat.reduceBEq, ↓reduceIte, reduceCtorEq, strA_length, strA_at, hp0, List.length_cons]
                refine x_callP (hdig) c_Digits (by simp [evA, upd_app, ofVal, ofCell]) (by simp [AV.pure, AV.pureL]) (by simp [AV.pure, AV.pureL]) ?_
                simp (disch := omega) only [go_sem, Nat.reduceEqDiff, Nat.reduceBEq, ↓reduceIte, reduceCtorEq, strA_length, strA_at, hp0, List.length_cons]
                refine x_callP (hNR) c_NatRead (by simp [evA, upd_app, ofVal, ofCell]) (by simp [AV.pure, AV.pureL]) (by simp [AV.pure, AV.pureL]) ?_
                simp (disch := omega) only [go_sem, Nat.reduceEqDiff, Nat.reduceBEq, ↓reduceIte, reduceCtorEq, natS, List.length_cons, List.length_nil, strA_length, strA_at, hp1]
                refine x_callP (hdig2) c_Digits (by simp [evA, upd_app, ofVal, ofCell]) (by simp [AV.pure, AV.pureL]) (by simp [AV.pure, AV.pureL]) ?_
                simp (disch := omega) only [go_sem, Nat.reduceEqDiff, Nat.reduceBEq, ↓reduceIte, reduceCtorEq, strA_length, strA_at, hp1]
                refine x_callP (hNR2) c_NatRead (by simp [evA, upd_app, ofVal, ofCell]) (by simp [AV.pure, AV.pureL]) (by simp [AV.pure, AV.pureL]) ?_
                simp (disch := omega) only [go_sem, Nat.reduceEqDiff, Nat.reduceBEq, ↓reduceIte, reduceCtorEq, natS]
                refine x_callP hcmp c_Cmp (by simp [evA, upd_app, natS]) (by simp [AV.pureL, AV.pure]) rfl ?_
                simp (disch := omega) only [go_sem, Nat.reduceEqDiff, Nat.reduceBEq, ↓reduceIte, reduceCtorEq, natS]
                refine x_callP hgcd c_Gcd (by simp [evA, upd_app, natS]) (by simp [AV.pureL]) (by simp) ?_
                simp (disch := omega) only [go_sem, Nat.reduceEqDiff, Nat.reduceBEq, ↓reduceIte, reduceCtorEq, natS]
                refine x_callP hcg c_Cmp (by simp [evA, upd_app, natS]) (by simp [AV.pureL, AV.pure]) rfl ?_
                simp (disch := omega) only [go_sem, Nat.reduceEqDiff, Nat.reduceBEq, ↓reduceIte, reduceCtorEq, e0]
                rw [← hQ]
                exact hfail _ (by simp [upd_app] <;> omega) (by simp [upd_app]) (by simp [upd_app, zrI]) (by simp [upd_app] <;> omega) hpq
            · have hc1 : cmpI u 1 ≤ 0 := by
                rcases Nat.lt_or_ge u 1 with h | h
                · rw [cmpI_lt h]; decide
                · rw [show u = 1 by omega, cmpI_eq]; decide
              rw [if_neg (fun h => hu1 h.1)] at hpq
              (refine callOk_of_wpc (W := fun _ => false) false hm' Tryz.func37 rfl (by kernel_rfl) (Nat.le_of_ble_eq_true rfl) (go_start ?_); generalize hQ : Post Tryz.prog Tryz.f37 _ _ _ _ _ = Q; simp only [stIn, matL, matA, st00])
              simp (disch := omega) only [go_sem, Nat.reduceEqDiff, Nat.reduceBEq, ↓reduceIte, reduceCtorEq, zrI, e0, hc0', h45, hsl]
              refine x_callP (hCut) c_sCut01 (by simp [evA, upd_app, ofVal, ofCell, hst]) (by simp [AV.pure, AV.pureL]) (by simp [AV.pure, AV.pureL]) ?_
              simp (disch := omega) only [go_sem, Nat.reduceEqDiff, Nat.reduceBEq, ↓reduceIte, reduceCtorEq, strA_length, strA_at, hp0, List.length_cons]
              refine x_callP (hdig) c_Digits (by simp [evA, upd_app, ofVal, ofCell]) (by simp [AV.pure, AV.pureL]) (by simp [AV.pure, AV.pureL]) ?_
              simp (disch := omega) only [go_sem, Nat.reduceEqDiff, Nat.reduceBEq, ↓reduceIte, reduceCtorEq, strA_length, strA_at, hp0, List.length_cons]
              refine x_callP (hNR) c_NatRead (by simp [evA, upd_app, ofVal, ofCell]) (by simp [AV.pure, AV.pureL]) (by simp [AV.pure, AV.pureL]) ?_
              simp (disch := omega) only [go_sem, Nat.reduceEqDiff, Nat.reduceBEq, ↓reduceIte, reduceCtorEq, natS, List.length_cons, List.length_nil, strA_length, strA_at, hp1]
              refine x_callP (hdig2) c_Digits (by simp [evA, upd_app, ofVal, ofCell]) (by simp [AV.pure, AV.pureL]) (by simp [AV.pure, AV.pureL]) ?_
              simp (disch := omega) only [go_sem, Nat.reduceEqDiff, Nat.reduceBEq, ↓reduceIte, reduceCtorEq, strA_length, strA_at, hp1]
              refine x_callP (hNR2) c_NatRead (by simp [evA, upd_app, ofVal, ofCell]) (by simp [AV.pure, AV.pureL]) (by simp [AV.pure, AV.pureL]) ?_
              simp (disch := omega) only [go_sem, Nat.reduceEqDiff, Nat.reduceBEq, ↓reduceIte, reduceCtorEq, natS]
              refine x_callP hcmp c_Cmp (by simp [evA, upd_app, natS]) (by simp [AV.pureL, AV.pure]) rfl ?_
              simp (disch := omega) only [go_sem, Nat.reduceEqDiff, Nat.reduceBEq, ↓reduceIte, reduceCtorEq, e0]
              rw [← hQ]
              exact hfail _ (by simp [upd_app] <;> omega) (by simp [upd_app]) (by simp [upd_app, zrI]) (by simp [upd_app] <;> omega) hpq
  · have hng : headB 45 s = false := by
      have : c0 ≠ 45 := fun e => h45 (by rw [e]; rfl)
      simp [headB, hhead, this]
    have hBs : B = s := by rw [← hB, bodyQ, hng]; rfl
    rw [hBs] at hCut
    rw [hng] at hpq
    simp only [Bool.false_eq_true, false_and, not_false_eq_true, and_true] at hpq
    cases hP1c : decide (2 ≤ P1.length) with
    | true =>
      have hP2 : 2 ≤ P1.length := by simpa using hP1c
      have hnone : parseQ s = none := by
        rw [hpq]
        rcases hP with ⟨_, h⟩ | ⟨j, h1, h2⟩
        · rw [h] at hP2; simp at hP2
        · have : tokD (B.drop (j + 1)) = false := by
            cases ht : tokD (B.drop (j + 1)) with
            | false => rfl
            | true =>
              rcases splitM_find (B.drop (j + 1)) with ⟨_, e⟩ | ⟨k, e, _⟩
              · rw [h2, e] at hP2; simp at hP2
              · rw [tok_noslash ht] at e; cases e
          simp only [h1, this, Bool.false_eq_true, false_and, if_false, ite_self]
      (refine callOk_of_wpc (W := fun _ => false) false hm' Tryz.func37 rfl (by kernel_rfl) (Nat.le_of_ble_eq_true rfl) (go_start ?_); generalize hQ : Post Tryz.prog Tryz.f37 _ _ _ _ _ = Q; simp only [stIn, matL, matA, st00])
      simp (disch := omega) only [go_sem, Nat.reduceEqDiff, Nat.reduceBEq, ↓reduceIte, reduceCtorEq, zrI, e0, hc0']
      refine x_callP (hCut) c_sCut01 (by simp [evA, upd_app, ofVal, ofCell]) (by simp [AV.pure, AV.pureL]) (by simp [AV.pure, AV.pureL]) ?_
      simp (disch := omega) only [go_sem, Nat.reduceEqDiff, Nat.reduceBEq, ↓reduceIte, reduceCtorEq, strA_length, List.length_cons, e0]
      rw [← hQ]
      exact hfail _ (by simp [upd_app] <;> omega) (by simp [upd_app]) (by simp [upd_app, zrI]) (by simp [upd_app] <;> omega) hnone
    | false =>
      have hP2 : P1.length ≤ 1 := by simp at hP1c; omega
      cases htd : tokD D with
      | false =>
        rw [htd] at hpq hdig
        simp only [Bool.false_eq_true, false_and, if_false] at hpq
        (refine callOk_of_wpc (W := fun _ => false) false hm' Tryz.func37 rfl (by kernel_rfl) (Nat.le_of_ble_eq_true rfl) (go_start ?_); generalize hQ : Post Tryz.prog Tryz.f37 _ _ _ _ _ = Q; simp only [stIn, matL, matA, st00])
        simp (disch := omega) only [go_sem, Nat.reduceEqDiff, Nat.reduceBEq, ↓reduceIte, reduceCtorEq, zrI, e0, hc0']
        refine x_callP (hCut) c_sCut01 (by simp [evA, upd_app, ofVal, ofCell]) (by simp [AV.pure, AV.pureL]) (by simp [AV.pure, AV.pureL]) ?_
        simp (disch := omega) only [go_sem, Nat.reduceEqDiff, Nat.reduceBEq, ↓reduceIte, reduceCtorEq, strA_length, strA_at, hp0, List.length_cons]
        refine x_callP (hdig) c_Digits (by simp [evA, upd_app, ofVal, ofCell]) (by simp [AV.pure, AV.pureL]) (by simp [AV.pure, AV.pureL]) ?_
        simp (disch := omega) only [go_sem, Nat.reduceEqDiff, Nat.reduceBEq, ↓reduceIte, reduceCtorEq, e0]
        rw [← hQ]
        exact hfail _ (by simp [upd_app] <;> omega) (by simp [upd_app]) (by simp [upd_app, zrI]) (by simp [upd_app] <;> omega) hpq
      | true =>
        have htl := htk htd
        rw [htd] at hpq hdig
        simp only [true_and, if_true] at hpq
        have hNR := s_NatRead D (tok_len htd).2.2 (by omega)
        obtain ⟨v, hv⟩ : ∃ v, dval D = v := ⟨_, rfl⟩
        rw [hv] at hNR hpq htl
        rcases hP with ⟨hf, rfl⟩ | ⟨j, hf, hPj⟩
        · rw [hf] at hpq
          simp only at hpq
          have hres : parseV s = .tup [ratS (false, v, 1), .bool true] := by rw [parseV, hpq]
          rw [hres]
          refine CallOk.res (r := .tup [.agg [.bool false, natS v, .sl 2 [.int .i64 1] [] true], .bool true]) ?_ (sub_tup (SubL.cons (sub_agg (SubL.cons (Sub.refl _) (SubL.cons (Sub.refl _) (SubL.cons (by rw [oneS]; exact sub_sl) .nil)))) (SubL.refl _)))
          (refine callOk_of_wpc (W := fun _ => false) false hm' Tryz.func37 rfl (by kernel_rfl) (Nat.le_of_ble_eq_true rfl) (go_start ?_); generalize hQ : Post Tryz.prog Tryz.f37 _ _ _ _ _ = Q; simp only [stIn, matL, matA, st00])
          simp (disch := omega) only [go_sem, Nat.reduceEqDiff, Nat.reduceBEq, ↓reduceIte, reduceCtorEq, zrI, e0, hc0']
          refine x_callP (hCut) c_sCut01 (by simp [evA, upd_app, ofVal, ofCell]) (by simp [AV.pure, AV.pureL]) (by simp [AV.pure, AV.pureL]) ?_
          simp (disch := omega) only [go_sem, Nat.reduceEqDiff, Nat.reduceBEq, ↓reduceIte, reduceCtorEq, strA_length, strA_at, hp0, List.length_cons]
          refine x_callP (hdig) c_Digits (by simp [evA, upd_app, ofVal, ofCell]) (by simp [AV.pure, AV.pureL]) (by simp [AV.pure, AV.pureL]) ?_
          simp (disch := omega) only [go_sem, Nat.reduceEqDiff, Nat.reduceBEq, ↓reduceIte, reduceCtorEq, strA_length, strA_at, hp0, List.length_cons]
          refine x_callP (hNR) c_NatRead (by simp [evA, upd_app, ofVal, ofCell]) (by simp [AV.pure, AV.pureL]) (by simp [AV.pure, AV.pureL]) ?_
          simp (disch := omega) only [go_sem, Nat.reduceEqDiff, Nat.reduceBEq, ↓reduceIte, reduceCtorEq, natS, List.length_cons, List.length_nil, e0]
          rw [← hQ]
          exact hgood _ false (natS v) (.sl 2 [.int .i64 1] [] true) (false, v, 1) (by simp [upd_app] <;> omega) (by simp [upd_app]) (by simp [upd_app, natS]) (by simp [upd_app] <;> omega) (by simp) rfl
        · rw [hf] at hpq
          simp only at hpq
          obtain ⟨e, he⟩ : ∃ e, B.drop (j + 1) = e := ⟨_, rfl⟩
          rw [he] at hpq hPj
          have hel : e.length ≤ B.length := by rw [← he]; simp
          have hPe : P1 = [e] := by
            rcases splitM_find e with ⟨_, h⟩ | ⟨k, _, h⟩
            · rw [hPj, h]
            · exfalso
              rw [hPj, h] at hP2
              have := splitM_ne 47 (e.drop (k + 1))
              cases hs' : splitM 47 (e.drop (k + 1)) with
              | nil => exact this hs'
              | cons a b => rw [hs'] at hP2; simp at hP2
          subst hPe
          have hp1 : [D, e][Int.toNat 1]? = some e := rfl
          have hdig2 := s_Digits e (by omega)
          cases hte : tokD e with
          | false =>
            rw [hte] at hpq hdig2
            simp only [Bool.false_eq_true, false_and, if_false] at hpq
            (refine callOk_of_wpc (W := fun _ => false) false hm' Tryz.func37 rfl (by kernel_rfl) (Nat.le_of_ble_eq_true rfl) (go_start ?_); generalize hQ : Post Tryz.prog Tryz.f37 _ _ _ _ _ = Q; simp only [stIn, matL, matA, st00])
            simp (disch := omega) only [go_sem, Nat.reduceEqDiff, Nat.reduceBEq, ↓reduceIte, reduceCtorEq, zrI, e0, hc0']
            refine x_callP (hCut) c_sCut01 (by simp [evA, upd_app, ofVal, ofCell]) (by simp [AV.pure, AV.pureL]) (by simp [AV.pure, AV.pureL]) ?_
            simp (disch := omega) only [go_sem, Nat.reduceEqDiff, Nat.reduceBEq, ↓reduceIte, reduceCtorEq, strA_length, strA_at, hp0, List.length_cons]
            refine x_callP (hdig) c_Digits (by simp [evA, upd_app, ofVal, ofCell]) (by simp [AV.pure, AV.pureL]) (by simp [AV.pure, AV.pureL]) ?_
            simp (disch := omega) only [go_sem, Nat.reduceEqDiff, Nat.reduceBEq, ↓reduceIte, reduceCtorEq, strA_length, strA_at, hp0, List.length_cons]
            refine x_callP (hNR) c_NatRead (by simp [evA, upd_app, ofVal, ofCell]) (by simp [AV.pure, AV.pureL]) (by simp [AV.pure, AV.pureL]) ?_
            simp (disch := omega) only [go_sem, Nat.reduceEqDiff, Nat.reduceBEq, ↓reduceIte, reduceCtorEq, natS, List.length_cons, List.length_nil, strA_length, strA_at, hp1]
            refine x_callP (hdig2) c_Digits (by simp [evA, upd_app, ofVal, ofCell]) (by simp [AV.pure, AV.pureL]) (by simp [AV.pure, AV.pureL]) ?_
            simp (disch := omega) only [go_sem, Nat.reduceEqDiff, Nat.reduceBEq, ↓reduceIte, reduceCtorEq, e0]
            rw [← hQ]
            exact hfail _ (by simp [upd_app] <;> omega) (by simp [upd_app]) (by simp [upd_app, zrI]) (by simp [upd_app] <;> omega) hpq
          | true =>
            have htl2 : (enc B9 (dval e)).length ≤ 200 := by
              obtain ⟨_, b, c⟩ := tok_len hte
              exact Nat.le_trans (dval_enc (by decide) c) b
            rw [hte] at hpq hdig2
            simp only [true_and] at hpq
            have hNR2 := s_NatRead e (tok_len hte).2.2 (by omega)
            obtain ⟨u, hu⟩ : ∃ u, dval e = u := ⟨_, rfl⟩
            rw [hu] at hNR2 hpq htl2
            have hcmp := (s_Cmp hm' u 1 (by omega) (by omega)).args (SubL.cons (Sub.refl _) (SubL.cons (show Sub Tryz.prog (.sl 2 [.int .i64 1] [] true) (natS 1) by rw [oneS]; exact sub_sl) .nil))
            have hgcd := s_Gcd v u (by omega) (by omega)
            by_cases hu1 : 1 < u
            · rw [cmpI_gt hu1] at hcmp
              obtain ⟨g, hg⟩ : ∃ g, Nat.gcd v u = g := ⟨_, rfl⟩
              rw [hg] at hgcd
              simp only [hg, hu1, true_and] at hpq
              have hgu : g ≤ u := by rw [← hg]; exact Nat.gcd_le_right v (by omega)
              have hgl := enc_len_mono B9_gt hgu
              have hcg := (s_Cmp hm' g 1 (by omega) (by omega)).args (SubL.cons (Sub.refl _) (SubL.cons (show Sub Tryz.prog (.sl 2 [.int .i64 1] [] true) (natS 1) by rw [oneS]; exact sub_sl) .nil))
              by_cases hg1 : g = 1
              · subst hg1
                rw [cmpI_eq] at hcg
                simp only [if_true] at hpq
                have hres : parseV s = .tup [ratS (false, v, u), .bool true] := by rw [parseV, hpq]
                rw [hres]
                (refine callOk_of_wpc (W := fun _ => false) false hm' Tryz.func37 rfl (by kernel_rfl) (Nat.le_of_ble_eq_true rfl) (go_start ?_); generalize hQ : Post Tryz.prog Tryz.f37 _ _ _ _ _ = Q; simp only [stIn, matL, matA, st00])
                simp (disch := omega) only [go_sem, Nat.reduceEqDiff, Nat.reduceBEq, ↓reduceIte, reduceCtorEq, zrI, e0, hc0']
                refine x_callP (hCut) c_sCut01 (by simp [evA, upd_app, ofVal, ofCell]) (by simp [AV.pure, AV.pureL]) (by simp [AV.pure, AV.pureL]) ?_
                simp (disch := omega) only [go_sem, Nat.reduceEqDiff, Nat.reduceBEq, ↓reduceIte, reduceCtorEq, strA_length, strA_at, hp0, List.length_cons]
                refine x_callP (hdig) c_Digits (by simp [evA, upd_app, ofVal, ofCell]) (by simp [AV.pure, AV.pureL]) (by simp [AV.pure, AV.pureL]) ?_
                simp (disch := omega) only [go_sem, Nat.reduceEqDiff, Nat.reduceBEq, ↓reduceIte, reduceCtorEq, strA_length, strA_at, hp0, List.length_cons]
                refine x_callP (hNR) c_NatRead (by simp [evA, upd_app, ofVal, ofCell]) (by simp [AV.pure, AV.pureL]) (by simp [AV.pure, AV.pureL]) ?_
                simp (disch := omega) only [go_sem, Nat.reduceEqDiff, Nat.reduceBEq, ↓reduceIte, reduceCtorEq, natS, List.length_cons, List.length_nil, strA_length, strA_at, hp1]
                refine x_callP (hdig2) c_Digits (by simp [evA, upd_app, ofVal, ofCell]) (by simp [AV.pure, AV.pureL]) (by simp [AV.pure, AV.pureL]) ?_
                simp (disch := omega) only [go_sem, Nat.reduceEqDiff, Nat.reduceBEq, ↓reduceIte, reduceCtorEq, strA_length, strA_at, hp1]
                refine x_callP (hNR2) c_NatRead (by simp [evA, upd_app, ofVal, ofCell]) (by simp [AV.pure, AV.pureL]) (by simp [AV.pure, AV.pureL]) ?_
                simp (disch := omega) only [go_sem, Nat.reduceEqDiff, Nat.reduceBEq, ↓reduceIte, reduceCtorEq, natS]
                refine x_callP hcmp c_Cmp (by simp [evA, upd_app, natS]) (by simp [AV.pureL, AV.pure]) rfl ?_
                simp (disch := omega) only [go_sem, Nat.reduceEqDiff, Nat.reduceBEq, ↓reduceIte, reduceCtorEq, natS]
                refine x_callP hgcd c_Gcd (by simp [evA, upd_app, natS]) (by simp [AV.pureL]) (by simp) ?_
                simp (disch := omega) only [go_sem, Nat.reduceEqDiff, Nat.reduceBEq, ↓reduceIte, reduceCtorEq, natS]
                refine x_callP hcg c_Cmp (by simp [evA, upd_app, natS]) (by simp [AV.pureL, AV.pure]) rfl ?_
                simp (disch := omega) only [go_sem, Nat.reduceEqDiff, Nat.reduceBEq, ↓reduceIte, reduceCtorEq, natS, e0]
                rw [← hQ]
                exact hgood _ false (natS v) (natS u) (false, v, u) (by simp [upd_app] <;> omega) (by simp [upd_app]) (by simp [upd_app, natS]) (by simp [upd_app] <;> omega) (by simp) (by simp)
              · have hcn : cmpI g 1 ≠ 0 := by
                  rcases Nat.lt_trichotomy g 1 with h | h | h
                  · rw [cmpI_lt h]; decide
                  · exact absurd h hg1
                  · rw [cmpI_gt h]; decide
                rw [if_neg hg1] at hpq
                (refine callOk_of_wpc (W := fun _ => false) false hm' Tryz.func37 rfl (by kernel_rfl) (Nat.le_of_ble_eq_true rfl) (go_start ?_); generalize hQ : Post Tryz.prog Tryz.f37 _ _ _ _ _ = Q; simp only [stIn, matL, matA, st00])
                simp (disch := omega) only [go_sem, Nat.reduceEqDiff, Nat.reduceBEq, ↓reduceIte, reduceCtorEq, zrI, e0, hc0']
                refine x_callP (hCut) c_sCut01 (by simp [evA, upd_app, ofVal, ofCell]) (by simp [AV.pure, AV.pureL]) (by simp [AV.pure, AV.pureL]) ?_
                simp (disch := omega) only [go_sem, Nat.reduceEqDiff, Nat.reduceBEq, ↓reduceIte, reduceCtorEq, strA_length, strA_at, hp0, List.length_cons]
                refine x_callP (hdig) c_Digits (by simp [evA, upd_app, ofVal, ofCell]) (by simp [AV.pure, AV.pureL]) (by simp [AV.pure, AV.pureL]) ?_
                simp (disch := omega) only [go_sem, Nat.reduceEqDiff, Nat.reduceBEq, ↓reduceIte, reduceCtorEq, strA_length, strA_at, hp0, List.length_cons]
                refine x_callP (hNR) c_NatRead (by simp [evA, upd_app, ofVal, ofCell]) (by simp [AV.pure, AV.pureL]) (by simp [AV.pure, AV.pureL]) ?_
                simp (disch := omega) only [go_sem, Nat.reduceEqDiff, Nat.reduceBEq, ↓reduceIte, reduceCtorEq, natS, List.length_cons, List.length_nil, strA_length, strA_at, hp1]
                refine x_callP (hdig2) c_Digits (by simp [evA, upd_app, ofVal, ofCell]) (by simp [AV.pure, AV.pureL]) (by simp [AV.pure, AV.pureL]) ?_
                simp (disch := omega) only [go_sem, Nat.reduceEqDiff, Nat.reduceBEq, ↓reduceIte, reduceCtorEq, strA_length, strA_at, hp1]
                refine x_callP (hNR2) c_NatRead (by simp [evA, upd_app, ofVal, ofCell]) (by simp [AV.pure, AV.pureL]) (by simp [AV.pure, AV.pureL]) ?_
                simp (disch := omega) only [go_sem, Nat.reduceEqDiff, Nat.reduceBEq, ↓reduceIte, reduceCtorEq, natS]
                refine x_callP hcmp c_Cmp (by simp [evA, upd_app, natS]) (by simp [AV.pureL, AV.pure]) rfl ?_
                simp (disch := omega) only [go_sem, Nat.reduceEqDiff, Nat.reduceBEq, ↓reduceIte, reduceCtorEq, natS]
                refine x_callP hgcd c_Gcd (by simp [evA, upd_app, natS]) (by simp [AV.pureL]) (by simp) ?_
                simp (disch := omega) only [go_sem, Nat.reduceEqDiff, Nat.reduceBEq, ↓reduceIte, reduceCtorEq, natS]
                refine x_callP hcg c_Cmp (by simp [evA, upd_app, natS]) (by simp [AV.pureL, AV.pure]) rfl ?_
                simp (disch := omega) only [go_sem, Nat.reduceEqDiff, Nat.reduceBEq, ↓reduceIte, reduceCtorEq, e0]
                rw [← hQ]
                exact hfail _ (by simp [upd_app] <;> omega) (by simp [upd_app]) (by simp [upd_app, zrI]) (by simp [upd_app] <;> omega) hpq
            · have hc1 : cmpI u 1 ≤ 0 := by
                rcases Nat.lt_or_ge u 1 with h | h
                · rw [cmpI_lt h]; decide
                · rw [show u = 1 by omega, cmpI_eq]; decide
              rw [if_neg (fun h => hu1 h.1)] at hpq
              (refine callOk_of_wpc (W := fun _ => false) false hm' Tryz.func37 rfl (by kernel_rfl) (Nat.le_of_ble_eq_true rfl) (go_start ?_); generalize hQ : Post Tryz.prog Tryz.f37 _ _ _ _ _ = Q; simp only [stIn, matL, matA, st00])
              simp (disch := omega) only [go_sem, Nat.reduceEqDiff, Nat.reduceBEq, ↓reduceIte, reduceCtorEq, zrI, e0, hc0']
              refine x_callP (hCut) c_sCut01 (by simp [evA, upd_app, ofVal, ofCell]) (by simp [AV.pure, AV.pureL]) (by simp [AV.pure, AV.pureL]) ?_
              simp (disch := omega) only [go_sem, Nat.reduceEqDiff, Nat.reduceBEq, ↓reduceIte, reduceCtorEq, strA_length, strA_at, hp0, List.length_cons]
              refine x_callP (hdig) c_Digits (by simp [evA, upd_app, ofVal, ofCell]) (by simp [AV.pure, AV.pureL]) (by simp [AV.pure, AV.pureL]) ?_
              simp (disch := omega) only [go_sem, Nat.reduceEqDiff, Nat.reduceBEq, ↓reduceIte, reduceCtorEq, strA_length, strA_at, hp0, List.length_cons]
              refine x_callP (hNR) c_NatRead (by simp [evA, upd_app, ofVal, ofCell]) (by simp [AV.pure, AV.pureL]) (by simp [AV.pure, AV.pureL]) ?_
              simp (disch := omega) only [go_sem, Nat.reduceEqDiff, Nat.reduceBEq, ↓reduceIte, reduceCtorEq, natS, List.length_cons, List.length_nil, strA_length, strA_at, hp1]
              refine x_callP (hdig2) c_Digits (by simp [evA, upd_app, ofVal, ofCell]) (by simp [AV.pure, AV.pureL]) (by simp [AV.pure, AV.pureL]) ?_
              simp (disch := omega) only [go_sem, Nat.reduceEqDiff, Nat.reduceBEq, ↓reduceIte, reduceCtorEq, strA_length, strA_at, hp1]
              refine x_callP (hNR2) c_NatRead (by simp [evA, upd_app, ofVal, ofCell]) (by simp [AV.pure, AV.pureL]) (by simp [AV.pure, AV.pureL]) ?_
              simp (disch := omega) only [go_sem, Nat.reduceEqDiff, Nat.reduceBEq, ↓reduceIte, reduceCtorEq, natS]
              refine x_callP hcmp c_Cmp (by simp [evA, upd_app, natS]) (by simp [AV.pureL, AV.pure]) rfl ?_
              simp (disch := omega) only [go_sem, Nat.reduceEqDiff, Nat.reduceBEq, ↓reduceIte, reduceCtorEq, e0]
              rw [← hQ]
              exact hfail _ (by simp [upd_app] <;> omega) (by simp [upd_app]) (by simp [upd_app, zrI]) (by simp [upd_app] <;> omega) hpq

section
variable {P : Program} {W : FuncId → Bool} {ops : Array Oper} {os : List Oper} {fr : Nat → AV} {h : Nat → Blk} {nx : Nat} {K : St → Prop} {d t : Nat} {p : String} {af : Array Edge}
end
theorem cl_room : callable Tryz.prog 31 = true := by kernel_rfl
def roomB (n : Nat) : Nat := if n % 6 = 5 then 0 else if n % 3 = 0 then 1 else n
theorem room_le (n : Nat) : roomB n ≤ n + 1 := by unfold roomB; split; omega; split <;> omega
theorem l_room (n : Nat) (hn : n < 9223372036854775808) : CallOk Tryz.prog 31 [.int .i64 n] (.int .i64 (roomB n)) [] := by
  unfold roomB
  by_cases h1 : n % 6 = 5
  · rw [if_pos h1]
    (refine callOk_of_wpc (W := fun _ => false) false hm' Tryz.func31 rfl (by kernel_rfl) (Nat.le_of_ble_eq_true rfl) (go_start ?_); generalize hQ : Post Tryz.prog Tryz.f31 _ _ _ _ _ = Q; simp only [stIn, matL, matA, st00])
    simp (disch := omega) only [go_sem, Nat.reduceEqDiff, Nat.reduceBEq, ↓reduceIte, reduceCtorEq, h1]
    rw [← hQ]
    exact post_one (.inl rfl) rfl (by simp [upd_app] <;> omega) rfl
  by_cases h2 : n % 3 = 0
  · rw [if_neg h1, if_pos h2]
    (refine callOk_of_wpc (W := fun _ => false) false hm' Tryz.func31 rfl (by kernel_rfl) (Nat.le_of_ble_eq_true rfl) (go_start ?_); generalize hQ : Post Tryz.prog Tryz.f31 _ _ _ _ _ = Q; simp only [stIn, matL, matA, st00])
    simp (disch := omega) only [go_sem, Nat.reduceEqDiff, Nat.reduceBEq, ↓reduceIte, reduceCtorEq, h2]
    rw [← hQ]
    exact post_one (.inl rfl) rfl (by simp [upd_app] <;> omega) rfl
  · rw [if_neg h1, if_neg h2]
    (refine callOk_of_wpc (W := fun _ => false) false hm' Tryz.func31 rfl (by kernel_rfl) (Nat.le_of_ble_eq_true rfl) (go_start ?_); generalize hQ : Post Tryz.prog Tryz.f31 _ _ _ _ _ = Q; simp only [stIn, matL, matA, st00])
    simp (disch := omega) only [go_sem, Nat.reduceEqDiff, Nat.reduceBEq, ↓reduceIte, reduceCtorEq]
    rw [← hQ]
    exact post_one (.inl rfl) rfl (by simp [upd_app] <;> omega) rfl
def qd (q : Rat) : Qd := (decide (q.num < 0), q.num.natAbs, q.den)
def sg (b : Bool) (m : Nat) : Int := if b then -(m : Int) else m
theorem sg_abs (b : Bool) (m : Nat) : (sg b m).natAbs = m := by cases b <;> simp [sg]
theorem sg_neg (b : Bool) (m : Nat) : decide (sg b m < 0) = (b && decide (m ≠ 0)) := by
  cases b
  · simp [sg]
  · simp only [sg, if_true, Bool.true_and]
    exact decide_eq_decide.2 (by omega)
theorem sg_div (b : Bool) (m g : Nat) (h : g ∣ m) : sg b m / (g : Int) = sg b (m / g) := by
  cases b
  · simp [sg]
  · simp only [sg, if_true]
    rw [Int.neg_ediv_of_dvd (Int.natCast_dvd_natCast.2 h)]; simp
theorem qd_mkRat (b : Bool) (m n : Nat) (hn : n ≠ 0) : qd (mkRat (sg b m) n) = (b && decide (m ≠ 0), m / Nat.gcd m n, n / Nat.gcd m n) := by
  unfold qd
  have hg : 0 < Nat.gcd m n := Nat.gcd_pos_of_pos_right _ (Nat.pos_of_ne_zero hn)
  rw [Rat.num_mkRat, Rat.den_mkRat, if_neg hn, if_neg hn, sg_abs, Nat.gcd_comm n m, sg_div _ _ _ (Nat.gcd_dvd_left m n), sg_abs, sg_neg]
  have : (m / Nat.gcd m n ≠ 0) ↔ m ≠ 0 := by
    constructor
    · rintro h rfl; simp at h
    · intro h h'
      have := Nat.div_mul_cancel (Nat.gcd_dvd_left m n)
      rw [h'] at this; omega
  simp only [this]
theorem qd_sg (q : Rat) : sg (qd q).1 (qd q).2.1 = q.num := by
 by_cases h : q.num < 0 <;> simp [qd, sg, h] <;> omega
def fits (n : Nat) (q : Rat) : Prop := q.num.natAbs < 2 ^ n ∧ q.den < 2 ^ n
theorem fits_mono {m n : Nat} {q : Rat} (h : fits m q) (hmn : m ≤ n) : fits n q :=
 ⟨Nat.lt_of_lt_of_le h.1 (Nat.pow_le_pow_right (by decide) hmn), Nat.lt_of_lt_of_le h.2 (Nat.pow_le_pow_right (by decide) hmn)⟩
theorem fits_mkRat {n d : Nat} {a : Int} (h1 : a.natAbs < 2 ^ n) (h2 : d < 2 ^ n) (hn : 0 < n) : fits n (mkRat a d) := by
  unfold fits
  rw [Rat.num_mkRat, Rat.den_mkRat]
  have h1n : 1 < 2 ^ n := Nat.one_lt_two_pow (by omega)
  split
  · simp; omega
  · refine ⟨Nat.lt_of_le_of_lt ?_ h1, Nat.lt_of_le_of_lt (Nat.div_le_self _ _) h2⟩
    rw [Int.natAbs_ediv_of_dvd (Int.ofNat_dvd_left.2 (Nat.gcd_dvd_right _ _))]
    exact Nat.div_le_self _ _
theorem mul_lt_pow {a b m n : Nat} (h1 : a < 2 ^ m) (h2 : b < 2 ^ n) : a * b < 2 ^ (m + n) := by
 rw [Nat.pow_add]
 exact Nat.mul_lt_mul'' h1 h2
theorem fits_mul {m n : Nat} {a b : Rat} (h1 : fits m a) (h2 : fits n b) (hm : 0 < m) : fits (m + n) (a * b) := by
 rw [Rat.mul_def']
 exact fits_mkRat (by rw [Int.natAbs_mul]; exact mul_lt_pow h1.1 h2.1) (mul_lt_pow h1.2 h2.2) (by omega)
theorem fits_add {m n : Nat} {a b : Rat} (h1 : fits m a) (h2 : fits n b) : fits (m + n + 1) (a + b) := by
 rw [Rat.add_def']
 have e : 2 ^ (m + n + 1) = 2 ^ (m + n) + 2 ^ (m + n) := by rw [Nat.pow_succ]; omega
 refine fits_mkRat ?_ (by have := mul_lt_pow h1.2 h2.2; omega) (by omega)
 have k1 := mul_lt_pow h1.1 h2.2
 have k2 := mul_lt_pow h2.1 h1.2
 rw [Nat.add_comm n m] at k2
 have := Int.natAbs_add_le (a.num * b.den) (b.num * a.den)
 rw [Int.natAbs_mul, Int.natAbs_mul] at this
 simp only [Int.natAbs_natCast] at this
 omega
theorem fits_neg {m : Nat} {a : Rat} (h : fits m a) : fits m (-a) := by simpa [fits] using h
theorem qd_neg (a : Rat) : qd (-a) = (!(qd a).1 && decide ((qd a).2.1 ≠ 0), (qd a).2.1, (qd a).2.2) := by
  simp only [qd, Rat.neg_num, Rat.neg_den, Int.natAbs_neg]
  congr 1
  by_cases h : a.num < 0
  · simp [h]; omega
  · have : (0 < a.num) ↔ ¬ a.num = 0 := by omega
    simp [h, this]
def sgnQ (q : Qd) : Int := if q.2.1 = 0 then 0 else if q.1 then -1 else 1
def cmpN (m n : Nat) : Int := if m < n then -1 else if n < m then 1 else 0
def cmpQ (a b : Qd) : Int := if sgnQ a ≠ sgnQ b then sgnQ a - sgnQ b else if a.1 then - cmpN (a.2.1 * b.2.2) (b.2.1 * a.2.2) else cmpN (a.2.1 * b.2.2) (b.2.1 * a.2.2)
theorem sgnQ_qd (a : Rat) : sgnQ (qd a) = a.num.sign := by
  simp only [sgnQ, qd]
  by_cases h : a.num = 0
  · simp [h]
  · by_cases h1 : a.num < 0
    · simp [h, h1, Int.sign_eq_neg_one_of_neg h1]
    · simp [h, h1, Int.sign_eq_one_of_pos (show 0 < a.num by omega)]
theorem cmp_lt (a b : Rat) : (cmpQ (qd a) (qd b) < 0 ↔ a < b) ∧ (cmpQ (qd a) (qd b) = 0 ↔ a = b) := by
  have hda := a.den_pos
  have hdb := b.den_pos
  rw [Rat.lt_iff, Rat.eq_iff_mul_eq_mul]
  simp only [cmpQ, sgnQ_qd]
  by_cases hs : a.num.sign = b.num.sign
  · simp only [hs, ne_eq, not_true_eq_false, if_false]
    simp only [qd, cmpN]
    by_cases h1 : a.num < 0
    · have h2 : b.num < 0 := by rw [Int.sign_eq_neg_one_of_neg h1] at hs; exact Int.sign_eq_neg_one_iff_neg.1 hs.symm
      obtain ⟨m, hm⟩ : ∃ m : Nat, a.num = -m := ⟨a.num.natAbs, by omega⟩
      obtain ⟨n, hn⟩ : ∃ n : Nat, b.num = -n := ⟨b.num.natAbs, by omega⟩
      simp only [hm, hn, Int.natAbs_neg, Int.natAbs_natCast, Int.neg_mul]
      have e1 : ((m : Int) * b.den) = ((m * b.den : Nat) : Int) := by simp
      have e2 : ((n : Int) * a.den) = ((n * a.den : Nat) : Int) := by simp
      rw [e1, e2]
      generalize m * b.den = X; generalize n * a.den = Y
      rw [hm] at h1
      simp only [h1, decide_true, if_true]
      split
      · omega
      · split <;> omega
    · obtain ⟨m, hm⟩ : ∃ m : Nat, a.num = m := ⟨a.num.natAbs, by omega⟩
      obtain ⟨n, hn⟩ : ∃ n : Nat, b.num = n := ⟨b.num.natAbs, by
        have : ¬ b.num < 0 := fun h => by rw [Int.sign_eq_neg_one_of_neg h] at hs; exact h1 (Int.sign_eq_neg_one_iff_neg.1 hs)
        omega⟩
      simp only [hm, hn, Int.natAbs_natCast]
      have e1 : ((m : Int) * b.den) = ((m * b.den : Nat) : Int) := by simp
      have e2 : ((n : Int) * a.den) = ((n * a.den : Nat) : Int) := by simp
      rw [e1, e2]
      generalize m * b.den = X; generalize n * a.den = Y
      have h0 : ¬ ((m : Int) < 0) := by omega
      simp only [h0, decide_false, Bool.false_eq_true, if_false]
      split
      · omega
      · split <;> omega
  · simp only [ne_eq, hs, not_false_eq_true, if_true]
    have ha : a.num * b.den < 0 ↔ a.num < 0 := by
      constructor
      · intro h; exact Int.not_le.1 fun h' => by have := Int.mul_nonneg h' (Int.natCast_nonneg b.den); omega
      · intro h; exact Int.mul_neg_of_neg_of_pos h (by omega)
    have ha' : 0 < a.num * b.den ↔ 0 < a.num := by
      constructor
      · intro h; exact Int.not_le.1 fun h' => by have := Int.mul_nonpos_of_nonpos_of_nonneg h' (Int.natCast_nonneg b.den); omega
      · intro h; exact Int.mul_pos h (by omega)
    have hb : b.num * a.den < 0 ↔ b.num < 0 := by
      constructor
      · intro h; exact Int.not_le.1 fun h' => by have := Int.mul_nonneg h' (Int.natCast_nonneg a.den); omega
      · intro h; exact Int.mul_neg_of_neg_of_pos h (by omega)
    have hb' : 0 < b.num * a.den ↔ 0 < b.num := by
      constructor
      · intro h; exact Int.not_le.1 fun h' => by have := Int.mul_nonpos_of_nonpos_of_nonneg h' (Int.natCast_nonneg a.den); omega
      · intro h; exact Int.mul_pos h (by omega)
    have sg : ∀ x : Int, (x < 0 ∧ x.sign = -1) ∨ (x = 0 ∧ x.sign = 0) ∨ (0 < x ∧ x.sign = 1) := fun x => by
      rcases Int.lt_trichotomy x 0 with h | h | h
      · exact .inl ⟨h, Int.sign_eq_neg_one_of_neg h⟩
      · exact .inr (.inl ⟨h, by simp [h]⟩)
      · exact .inr (.inr ⟨h, Int.sign_eq_one_of_pos h⟩)
    generalize a.num * b.den = X at *
    generalize b.num * a.den = Y at *
    rcases sg a.num with ⟨h1, h2⟩ | ⟨h1, h2⟩ | ⟨h1, h2⟩ <;> rcases sg b.num with ⟨h3, h4⟩ | ⟨h3, h4⟩ | ⟨h3, h4⟩ <;> rw [h2, h4] at hs ⊢ <;> omega

inductive Tok (p : Prop) : Type | mk
def Hid (p : Prop) (_ : Tok p) : Prop := p
theorem orHid {p q : Prop} (h : q → p) : p = (Hid p .mk ∨ q) := propext ⟨.inl, fun h' => h'.elim id h⟩
structure CC where
 d : Option Tmp
 ops : Array Oper
 os : List Oper
 fr : Nat → AV
 h : Nat → Blk
 nx : Nat
 K : St → Prop
inductive TokC (c : CC) : Type | mk
def callW (P : Program) (W : FuncId → Bool) (g : FuncId) (al : List AV) (c : CC) (_ : TokC c) : Prop :=
 callable P g = true ∧ ∃ x st', InOk P ⟨c.fr, c.h, c.nx⟩ g al x st' ∧ (W g = false → st'.h = c.h ∧ st'.nx = c.nx) ∧ (W g = false → AV.pureL al = true → ∀ h nx, InOk P ⟨c.fr, h, nx⟩ g al x ⟨c.fr, h, nx⟩) ∧ wpos P W c.ops c.os (st'.put c.d x) c.K
section
variable {P : Program} {W : FuncId → Bool} {ops : Array Oper} {os : List Oper} {fr : Nat → AV} {h : Nat → Blk} {nx : Nat} {K : St → Prop} {d : Option Tmp} {t : Nat} {p : String} {af : Array Edge}
theorem x_callV {g : FuncId} {args : Array Operand} {ts : Array TypeId} : wpos P W ops (⟨d, .call { callee := .value (.func g), args := args, argTypes := ts }, t, p, af, none⟩ :: os) ⟨fr, h, nx⟩ K =
    callW P W g (args.toList.map (evA fr)) ⟨d, ops, os, fr, h, nx, K⟩ .mk := by
  simp only [wpos, wpo, guardA, opK, callW, ValCall]
  refine propext ⟨fun hw => ?_, fun hw => ⟨fun _ => ?_, by simp⟩⟩
  · obtain ⟨x, st', ⟨g', first, cap, h1, h2, h3, h4, h5⟩, hk⟩ := hw.1 trivial
    have h1' : AV.fn (.func g) [] [] = AV.fn (.func g') first cap := h1
    injection h1' with e1 e2 e3
    injection e1 with e1
    subst e1; subst e2; subst e3
    have e : St.ev ⟨fr, h, nx⟩ = evA fr := by funext x; rfl
    rw [e] at h3 h5
    exact ⟨h2, x, st', by simpa using h3, fun hg => h4 (by simpa [isW] using hg), fun hg hp h nx => by simpa using h5 (by simpa [isW] using hg) (by simpa using hp) h nx, hk⟩
  · obtain ⟨h2, x, st', h3, h4, h5, hk⟩ := hw
    have e : St.ev ⟨fr, h, nx⟩ = evA fr := by funext x; rfl
    exact ⟨x, st', ⟨g, [], [], rfl, h2, by rw [e]; simpa using h3, fun hg => h4 (by simpa [isW] using hg), fun hg hp h nx => by rw [e] at hp ⊢; simpa using h5 (by simpa [isW] using hg) (by simpa using hp) h nx⟩, hk⟩
end
abbrev CW (P : Program) (g : FuncId) (al : List AV) (r : AV) : Prop :=
 ∀ (W : FuncId → Bool) (d : Option Tmp) (ops : Array Oper) (os : List Oper) (fr : Nat → AV) (h : Nat → Blk) (nx : Nat) (K : St → Prop) (t : TokC ⟨d, ops, os, fr, h, nx, K⟩),
  callW P W g al ⟨d, ops, os, fr, h, nx, K⟩ t = (Hid (callW P W g al ⟨d, ops, os, fr, h, nx, K⟩ .mk) .mk ∨ wpos P W ops os (St.put ⟨fr, h, nx⟩ d r) K)
theorem cw {P : Program} {g : FuncId} {al : List AV} {r : AV} (hg : callable P g = true) (hp : AV.pureL al = true) (hr : r.pure = true) (hc : CallOk P g al r []) : CW P g al r := by
 intro W d ops os fr h nx K t
 cases t
 exact orHid fun hk => ⟨hg, r, ⟨fr, h, nx⟩, hc.inOk hp hr, fun _ => ⟨rfl, rfl⟩, fun _ _ _ _ => hc.inOk hp hr, hk⟩
section
variable {P : Program} {W : FuncId → Bool} {d : Option Tmp} {ops : Array Oper} {os : List Oper} {fr : Nat → AV} {h : Nat → Blk} {nx : Nat} {K : St → Prop} {t : TokC ⟨d, ops, os, fr, h, nx, K⟩} {g : FuncId} {al : List AV}
theorem callW_I {x : AV} {h' : Nat → Blk} {nx' : Nat} (hi : InOk P ⟨fr, h, nx⟩ g al x ⟨fr, h', nx'⟩) (hg : callable P g = true) (hW : W g = true ∨ h' = h ∧ nx' = nx) (hk : wpos P W ops os (St.put ⟨fr, h', nx'⟩ d x) K) (hpu : W g = true ∨ AV.pureL al = false := by first | exact .inl rfl | exact .inr (by simp [AV.pureL, AV.pure])) : callW P W g al ⟨d, ops, os, fr, h, nx, K⟩ t :=
 ⟨hg, x, ⟨fr, h', nx'⟩, hi, fun hw => hW.elim (fun h => by rw [h] at hw; cases hw) id, fun hw hp => hpu.elim (fun h => by rw [h] at hw; cases hw) (fun h => by rw [h] at hp; cases hp), hk⟩
theorem callW_of (pm : List PM) {sargs : List AV} {sids : List Nat} {io : List (Nat × Nat × Nat)} {eat : List Nat} {r : AV} {outs : List (List AV)}
    (hc : CallOk P g sargs r outs) (hg : callable P g = true) (hp : passL ⟨fr, h, nx⟩ pm al = some (sargs, sids, io, eat))
    (hw : W g = false → (matA true r ⟨fr, eatH (outH h io outs) eat, nx⟩).2.h = h ∧ (matA true r ⟨fr, eatH (outH h io outs) eat, nx⟩).2.nx = nx)
    (h1 : (io.map (·.1) ++ eat).Nodup) (h2 : ∀ i ∈ sids, i ∉ io.map (·.1) ++ eat) (h3 : sids = [] ∨ r.solid = true ∧ AV.solidL outs.flatten = true) (h4 : io = [] ∨ eat = [] ∧ outs.length = io.length)
    (hpu : W g = false → AV.pureL al = true → ∀ h0 nx0, InOk P ⟨fr, h0, nx0⟩ g al (matA true r ⟨fr, eatH (outH h io outs) eat, nx⟩).1 ⟨fr, h0, nx0⟩)
    (hk : wpos P W ops os ((matA true r ⟨fr, eatH (outH h io outs) eat, nx⟩).2.put d (matA true r ⟨fr, eatH (outH h io outs) eat, nx⟩).1) K) : callW P W g al ⟨d, ops, os, fr, h, nx, K⟩ t :=
  ⟨hg, _, _, CallStep.inOk ⟨pm, sargs, sids, io, eat, r, outs, hp, hc, h1, h2, h3, h4, Prod.ext rfl rfl⟩, hw, hpu, hk⟩
theorem passL_snap' {st : St} : ∀ {al sargs : List AV} {ids : List Nat}, snapL (snapA st 8) al = some (sargs, ids) → passL st (al.map fun _ => .snap) al = some (sargs, ids, [], [])
 | [], _, _, h => by simp only [snapL, Option.some.injEq, Prod.mk.injEq] at h; obtain ⟨rfl, rfl⟩ := h; rfl
 | a :: al, sargs, ids, h => by
  obtain ⟨y, i, ys, is, h1, h2, h3⟩ := snapL_cons h
  simp only [Prod.mk.injEq] at h3
  obtain ⟨rfl, rfl⟩ := h3
  simp [passL, passA, h1, passL_snap' h2]
theorem callW_F {as1 : List AV} {ids : List Nat} {r : AV} (hc : CallOk P g as1 r []) (hg : callable P g = true) (hs : snapL (snapA ⟨fr, h, nx⟩ 8) al = some (as1, ids)) (hgr : ∀ i ∈ ids, (h i).gr = true) (hp : AV.pureL as1 = true) (hr : r.pure = true) (hW : W g = true)
  (hk : wpos P W ops os (St.put ⟨fr, eatH h ids, nx⟩ d r) K) : callW P W g al ⟨d, ops, os, fr, h, nx, K⟩ t :=
 callW_I (inOk_freeze hs hgr (hc.inOk hp hr)) hg (.inl hW) hk (.inl hW)
theorem callW_S {sargs : List AV} {ids : List Nat} {r : AV} (hc : CallOk P g sargs r []) (hg : callable P g = true) (hs : snapL (snapA ⟨fr, h, nx⟩ 8) al = some (sargs, ids)) (hr : r.pure = true) (ht : r.solid = true)
    (hk : wpos P W ops os (St.put ⟨fr, h, nx⟩ d r) K) : callW P W g al ⟨d, ops, os, fr, h, nx, K⟩ t := by
  have he : eatH (outH h [] []) [] = h := by funext i; simp [eatH, outH]
  refine callW_of (pm := al.map fun _ => .snap) (outs := []) hc hg (passL_snap' hs) ?_ (by simp) (by simp) (.inr ⟨ht, rfl⟩) (.inl rfl) ?_ ?_
  · intro _; rw [matA_pure _ _ _ hr, he]; exact ⟨rfl, rfl⟩
  · intro _ hp h0 nx0
    rw [snapL_pure hp] at hs; cases hs
    rw [matA_pure _ _ _ hr]; exact hc.inOk' hp hr
  · rw [matA_pure _ _ _ hr, he]; exact hk
theorem callW_P {r : AV} (hc : CallOk P g al r []) (hg : callable P g = true) (hp : AV.pureL al = true) (hr : r.pure = true) (hk : wpos P W ops os (St.put ⟨fr, h, nx⟩ d r) K) : callW P W g al ⟨d, ops, os, fr, h, nx, K⟩ t :=
 ⟨hg, r, ⟨fr, h, nx⟩, hc.inOk hp hr, fun _ => ⟨rfl, rfl⟩, fun _ _ _ _ => hc.inOk hp hr, hk⟩
theorem callW_O {T : Nat} {xs sp : List AV} {ex : Bool} (hc : CallOk P g al (.own T xs sp ex) []) (hg : callable P g = true) (hp : AV.pureL al = true) (hr : AV.pureL xs = true) (hs : AV.pureL sp = true) (hW : W g = true)
  (hk : wpos P W ops os (St.put ⟨fr, upd h nx ⟨T, xs ++ sp, ex, true, true⟩, nx + 1⟩ d (.ref nx (xs.length + sp.length) 0 xs.length)) K) : callW P W g al ⟨d, ops, os, fr, h, nx, K⟩ t :=
 callW_I (hc.inOkO hp hr hs) hg (.inl hW) hk (.inl hW)
end
attribute [go_sem ↓] x_callV
attribute [go_sem] List.toList_toArray List.map_cons List.map_nil
def ninL (x : Nat) : List Nat → Prop
 | [] => True
 | y :: ys => x ≠ y ∧ ninL x ys
def sepL : List Nat → List Nat → Prop
 | [], _ => True
 | x :: xs, ys => ninL x ys ∧ sepL xs ys
theorem ninL_iff {x : Nat} : ∀ {ys : List Nat}, ninL x ys ↔ x ∉ ys
 | [] => by simp [ninL]
 | y :: ys => by simp [ninL, ninL_iff]
theorem sepL_iff {ys : List Nat} : ∀ {xs : List Nat}, sepL xs ys ↔ ∀ i ∈ xs, i ∉ ys
 | [] => by simp [sepL]
 | x :: xs => by simp [sepL, sepL_iff, ninL_iff]
theorem apart_eq {st : St} {ops : Array Oper} {i j : Nat} : apartAt st ops (i, j) = match ops[i]?, ops[j]? with
  | some a, some b => sepL (idsO st a) (idsO st b)
  | _, _ => True := by
 simp only [apartAt]
 cases ops[i]? <;> try rfl
 cases ops[j]? <;> try rfl
 simp only [sepL_iff]
theorem neT {a b : Nat} (h : a ≠ b) : (a ≠ b) = True := by simp [h]
theorem k_appE {P : Program} {w : FuncId → Bool} {d : Nat → Option (List (Nat × Nat))} {i : Nat} {ops : Array Oper} {ks : List Fr} {Q : Ex → St → Prop} {st : St} {h0 : Nat → Blk} : KN P ⟨w, d⟩ i ops h0 ks Q st = (dOk P (d i) ops h0 st ∧ runK P ⟨w, d⟩ ks .normal st Q) := (rfl : _ = _).trans rfl
theorem idsO_mk {st : St} {d : Option Tmp} {o : Op} {t : Nat} {p : String} {af : Array Edge} {g : Option (Nat × Bool)} : idsO st ⟨d, o, t, p, af, g⟩ = idsK st d (kdOf o) := rfl
theorem pureOL_cons {st : St} {d : Option Tmp} {o : Op} {t : Nat} {p : String} {af : Array Edge} {g : Option (Nat × Bool)} {os : List Oper} : pureOL st (⟨d, o, t, p, af, g⟩ :: os) = (pureK st (kdOf o) ∧ pureOL st os) := rfl
theorem pureOL_nil {st : St} : pureOL st [] = True := rfl
theorem ev_fun (fr : Nat → AV) (h : Nat → Blk) (nx : Nat) : St.ev ⟨fr, h, nx⟩ = evA fr := by funext x; rfl
attribute [go_sem] isLk lh_some lookL floatK sameL List.tail_cons isRefA isSlA dOk_none dOk_some apart_eq ninL sepL neT idsO_mk idsK idOf kdOf isS pureOL_cons pureOL_nil pureK ev_mk ev_fun apartL AV.pureL AV.pure Bool.and_self
instance (n : Nat) (q : Rat) : Decidable (fits n q) := by unfold fits; infer_instance
def badA : AV := .sl 0 [.undef] [] false
theorem rep_bad {P : Program} {E : Env} {v : Value} (h : rep P E badA v) : False := by
 simp only [badA, rep] at h
 obtain ⟨a, cap, _, _, _, h, _⟩ := h
 have := h .undef (by simp)
 simp [AV.el, AV.cells, AV.one] at this
def tI (n : Nat) (q : Rat) : AV := if fits n q then natI q.num.natAbs else badA
def dI (n : Nat) (q : Rat) : AV := if fits n q then natI q.den else badA
def tS (n : Nat) (q : Rat) : AV := if fits n q then natS q.num.natAbs else badA
def dS (n : Nat) (q : Rat) : AV := if fits n q then natS q.den else badA
abbrev rI (n : Nat) (q : Rat) : AV := .agg [.bool (decide (q.num < 0)), tI n q, dI n q]
abbrev rS (n : Nat) (q : Rat) : AV := .agg [.bool (decide (q.num < 0)), tS n q, dS n q]
theorem rI_eq {n : Nat} {q : Rat} (h : fits n q) : rI n q = ratI (qd q) := by simp [rI, tI, dI, h, ratI, qd]
theorem rS_eq {n : Nat} {q : Rat} (h : fits n q) : rS n q = ratS (qd q) := by simp [rS, tS, dS, h, ratS, qd]
theorem rI_le {m n : Nat} {q : Rat} (h : fits m q) (hmn : m ≤ n) : rI n q = rI m q := by rw [rI_eq h, rI_eq (fits_mono h hmn)]
theorem rS_le {m n : Nat} {q : Rat} (h : fits m q) (hmn : m ≤ n) : rS n q = rS m q := by rw [rS_eq h, rS_eq (fits_mono h hmn)]
@[simp] theorem badA_pure : badA.pure = true := rfl
@[simp] theorem tI_pure (n : Nat) (q : Rat) : (tI n q).pure = true := by unfold tI; split <;> simp
@[simp] theorem dI_pure (n : Nat) (q : Rat) : (dI n q).pure = true := by unfold dI; split <;> simp
@[simp] theorem tS_pure (n : Nat) (q : Rat) : (tS n q).pure = true := by unfold tS; split <;> simp [natS_pure]
@[simp] theorem dS_pure (n : Nat) (q : Rat) : (dS n q).pure = true := by unfold dS; split <;> simp [natS_pure]
@[simp] theorem tI_one (n : Nat) (q : Rat) : (tI n q).one = true := by unfold tI; split <;> rfl
@[simp] theorem dI_one (n : Nat) (q : Rat) : (dI n q).one = true := by unfold dI; split <;> rfl
@[simp] theorem tS_one (n : Nat) (q : Rat) : (tS n q).one = true := by unfold tS; split <;> rfl
@[simp] theorem dS_one (n : Nat) (q : Rat) : (dS n q).one = true := by unfold dS; split <;> rfl
attribute [go_sem] List.take_succ_cons List.take_zero Nat.reduceAdd Nat.reduceLeDiff
theorem natI_one (n : Nat) : (natI n).one = true := rfl
theorem natS_one (n : Nat) : (natS n).one = true := rfl
theorem natI_cells (n : Nat) : (natI n).cells = [natI n] := rfl
theorem natS_cells (n : Nat) : (natS n).cells = [natS n] := rfl
theorem el_iRat3 {a b c : AV} : AV.el Tryz.prog 53 (.agg [a, b, c]) = (a.one && (b.one && c.one)) := by simp [AV.el, s_iRat, AV.cells]
theorem el_sRat3 {a b c : AV} : AV.el Tryz.prog 39 (.agg [a, b, c]) = (a.one && (b.one && c.one)) := by simp [AV.el, s_sRat, AV.cells]
theorem one_bool (b : Bool) : (AV.bool b).one = true := rfl
theorem one_int (k : IntKind) (n : Int) : (AV.int k n).one = true := rfl
theorem one_str (s : List UInt8) : (AV.str s).one = true := rfl
theorem one_nil : AV.nil.one = true := rfl
theorem one_sl (t : Nat) (xs sp : List AV) (ex : Bool) : (AV.sl t xs sp ex).one = true := rfl
theorem one_ref (id n off len : Nat) : (AV.ref id n off len).one = true := rfl
theorem one_ptr (id n i j : Nat) : (AV.ptr id n i j).one = true := rfl
theorem one_cptr (t : Nat) (v : AV) (j : Nat) : (AV.cptr t v j).one = true := rfl
attribute [go_sem] el_iRat3 el_sRat3 one_bool one_int one_str one_nil one_sl one_ref one_ptr one_cptr tI_one dI_one tS_one dS_one natI_one natS_one natI_cells natS_cells
theorem matA_tI (g : Bool) (n : Nat) (q : Rat) (st : St) : matA g (tI n q) st = (tI n q, st) := matA_pure _ _ _ (tI_pure n q)
theorem matA_dI (g : Bool) (n : Nat) (q : Rat) (st : St) : matA g (dI n q) st = (dI n q, st) := matA_pure _ _ _ (dI_pure n q)
theorem matA_tS (g : Bool) (n : Nat) (q : Rat) (st : St) : matA g (tS n q) st = (tS n q, st) := matA_pure _ _ _ (tS_pure n q)
theorem matA_dS (g : Bool) (n : Nat) (q : Rat) (st : St) : matA g (dS n q) st = (dS n q, st) := matA_pure _ _ _ (dS_pure n q)
attribute [go_sem] matA_tI matA_dI matA_tS matA_dS
def ratL (n : Nat) (qs : List Rat) : List AV := qs.map (rI n)
def ratM (n : Nat) (qs : List Rat) : List AV := qs.map (rS n)
theorem ratL_length {n : Nat} {qs : List Rat} : (ratL n qs).length = qs.length := by simp [ratL]
theorem ratM_length {n : Nat} {qs : List Rat} : (ratM n qs).length = qs.length := by simp [ratM]
theorem ratL_at {n : Nat} {qs : List Rat} {i : Nat} : (ratL n qs)[i]? = (qs[i]?).map (rI n) := by simp [ratL]
theorem ratM_at {n : Nat} {qs : List Rat} {i : Nat} : (ratM n qs)[i]? = (qs[i]?).map (rS n) := by simp [ratM]
@[simp] theorem ratL_pure {n : Nat} {qs : List Rat} : AV.pureL (ratL n qs) = true := by induction qs <;> simp_all [ratL, AV.pureL, AV.pure]
@[simp] theorem ratM_pure {n : Nat} {qs : List Rat} : AV.pureL (ratM n qs) = true := by induction qs <;> simp_all [ratM, AV.pureL, AV.pure]
theorem ratL_nil {n : Nat} : ratL n [] = [] := rfl
theorem ratM_nil {n : Nat} : ratM n [] = [] := rfl
theorem ratL_snoc {n : Nat} {qs : List Rat} {q : Rat} : ratL n qs ++ [rI n q] = ratL n (qs ++ [q]) := by simp [ratL]
theorem ratM_snoc {n : Nat} {qs : List Rat} {q : Rat} : ratM n qs ++ [rS n q] = ratM n (qs ++ [q]) := by simp [ratM]
theorem ratL_put {n : Nat} {qs : List Rat} {i : Nat} {q : Rat} : (ratL n qs).set i (rI n q) = ratL n (qs.set i q) := by simp [ratL, List.map_set]
theorem ratM_put {n : Nat} {qs : List Rat} {i : Nat} {q : Rat} : (ratM n qs).set i (rS n q) = ratM n (qs.set i q) := by simp [ratM, List.map_set]
abbrev lI (n : Nat) (qs : List Rat) : AV := .sl 53 (ratL n qs) [] false
abbrev lS (n : Nat) (qs : List Rat) : AV := .sl 39 (ratM n qs) [] false
attribute [go_sem] ratL_length ratM_length ratL_at ratM_at natA_pure natI_pure natS_pure tI_pure dI_pure tS_pure dS_pure ratL_pure ratM_pure strA_pure
def Told (P : Program) (x : AV) (p : Prop) : Prop := ∀ E v, rep P E x v → p
theorem told_rI {n : Nat} {q : Rat} : Told Tryz.prog (rI n q) (fits n q) := by
 intro E v h
 refine Classical.byContradiction fun hn => ?_
 simp only [rI, tI, hn, if_false, rep, repL] at h
 obtain ⟨vs, _, _, us, _, _, v2, us2, _, h2, _⟩ := h
 exact rep_bad h2
theorem told_rS {n : Nat} {q : Rat} : Told Tryz.prog (rS n q) (fits n q) := by
 intro E v h
 refine Classical.byContradiction fun hn => ?_
 simp only [rS, tS, hn, if_false, rep, repL] at h
 obtain ⟨vs, _, _, us, _, _, v2, us2, _, h2, _⟩ := h
 exact rep_bad h2
theorem callOk_told {P : Program} {f : FuncId} {al : List AV} {r : AV} {outs : List (List AV)} {x : AV} {p : Prop} (ht : Told P x p) (hx : x ∈ al) (hp : x.pure = true) (h : p → CallOk P f al r outs) : CallOk P f al r outs := by
  intro w I vs L h1 h2 h3
  suffices p from h this w I vs L h1 h2 h3
  have : ∀ (al : List AV) (vs : List Value) (L : List OLoc), x ∈ al → ownRL P (bare w I) al vs L → p := by
    intro al
    induction al with
    | nil => intro _ _ h; cases h
    | cons y al ih =>
      intro vs L hx h
      simp only [ownRL] at h
      obtain ⟨v, us, L1, L2, _, _, h3, h4⟩ := h
      rcases List.mem_cons.1 hx with rfl | hx
      · exact ht _ v (rep_of_ownR _ v L1 hp h3).2
      · exact ih us L2 hx h4
  exact this al vs L hx h2
theorem len32 {v n : Nat} (h : v < 2 ^ n) : (enc B32 v).length ≤ n := enc_len_le B32_gt (Nat.lt_of_lt_of_le h (Nat.pow_le_pow_left (by decide) n))
theorem len9 {v n : Nat} (h : v < 2 ^ n) : (enc B9 v).length ≤ n := enc_len_le B9_gt (Nat.lt_of_lt_of_le h (Nat.pow_le_pow_left (by decide) n))
theorem sub_step {B i x y c e c' A D V : Nat} (hv : A + B ^ i * c = D + V) (h : x + B * c' = e + y + c) : A + B ^ i * x + B ^ (i + 1) * c' = D + B ^ i * e + (V + B ^ i * y) := by
  have := congrArg (B ^ i * ·) h
  simp only [Nat.mul_add, ← Nat.mul_assoc, ← Nat.pow_add_one] at this
  omega
theorem val_take_getD {B : Nat} {xs : List Nat} {i : Nat} : val B (xs.take (i + 1)) = val B (xs.take i) + B ^ i * xs.getD i 0 := by
  by_cases h : i < xs.length
  · rw [val_take_succ (getD_some h)]
  · rw [getD_none h, List.take_of_length_le (by omega), List.take_of_length_le (by omega)]; simp
theorem w_natSub {a b : Nat} (ha : (enc B32 a).length ≤ 1099511627776) (hab : b ≤ a) : CW Tryz.prog 71 [natI a, natI b] (natI (a - b)) := by
  refine cw (by kernel_rfl) (by simp [AV.pure, AV.pureL]) (by simp [AV.pure, AV.pureL]) ?_
  (refine callOk_of_wpc (W := fun g => g == 95) false hm' Tryz.func71 rfl (by kernel_rfl) (Nat.le_of_ble_eq_true rfl) (go_start ?_); generalize hQ : Post Tryz.prog Tryz.f71 _ _ _ _ _ = Q; simp only [stIn, matL, matA, st00, natI])
  have hB : B32 = 4294967296 := rfl
  obtain ⟨n, hn⟩ : ∃ n, (enc B32 a).length = n := ⟨_, rfl⟩
  obtain ⟨l, hl⟩ : ∃ l, (enc B32 b).length = l := ⟨_, rfl⟩
  have hln : l ≤ n := by rw [← hl, ← hn]; exact enc_len_mono B32_gt hab
  rw [hn] at ha
  simp (disch := omega) only [go_sem, Nat.reduceEqDiff, Nat.reduceBEq, ↓reduceIte, reduceCtorEq, hn, reach]
  refine k_loop (fun (⟨i, c, ds⟩ : Nat × Nat × List Nat) st => st.fr 0 = natI a ∧ st.fr 1 = natI b ∧ st.fr 5 = .ref 0 n 0 n ∧ st.fr 13 = .int .i64 n ∧ st.fr 14 = .int .i64 i ∧ st.fr 6 = .int .i64 c ∧ st.h 0 = ⟨128, natA .u32 ds, true, true, true⟩ ∧ 0 < st.nx ∧ (ds.length = n) ∧ (i ≤ n) ∧ (c ≤ 1) ∧ (∀ d ∈ ds, d < B32) ∧ (val B32 ((enc B32 a).take i) + B32 ^ i * c = val B32 (ds.take i) + val B32 ((enc B32 b).take i))) (fun (⟨i, c, ds⟩ : Nat × Nat × List Nat) => n - i) (0, 0, List.replicate n 0)
    ⟨(by simp [upd_app, natI] <;> omega), (by simp [upd_app, natI] <;> omega), (by simp [upd_app, natI] <;> omega), (by simp [upd_app, natI] <;> omega), (by simp [upd_app, natI] <;> omega), (by simp [upd_app, natI] <;> omega), (by simp [upd_app, natI] <;> omega), (by simp <;> omega), by simp, by simp, by simp, zeros_lt B32_gt, by simp [val]⟩ ?_
  rintro ⟨i, c, ds⟩ ⟨fr, h, nx⟩ ⟨g0, g1, g5, g13, g14, g6, hm0, hnx, hlen, hi, hc, hq, hv⟩ J hJ
  simp only at g0 g1 g5 g13 g14 g6 hm0 hnx
  simp only [natI] at g0 g1
  have hdl : (natA .u32 ds).length = n := by rw [natA_length, hlen]
  by_cases hin : i < n
  · obtain ⟨x, hx⟩ := get_some (xs := enc B32 a) (i := i) (by omega)
    have hxB : x < B32 := enc_lt B32_gt a x (List.mem_of_getElem? hx)
    obtain ⟨y, hy⟩ : ∃ y, (enc B32 b).getD i 0 = y := ⟨_, rfl⟩
    have hyB : y < B32 := by rw [← hy]; exact getD_lt B32_gt (enc_lt B32_gt b) i
    have hvx := val_take_succ (B := B32) hx
    have hvy := val_take_getD (B := B32) (xs := enc B32 b) (i := i)
    obtain ⟨z, hz⟩ := get_some (xs := ds) (i := i) (by omega)
    rw [hy] at hvy
    have key : ∀ (c' e : Nat) (st : St), c' ≤ 1 → e < B32 → x + B32 * c' = e + y + c → st.fr 0 = natI a → st.fr 1 = natI b → st.fr 5 = .ref 0 n 0 n → st.fr 13 = .int .i64 n → st.fr 14 = .int .i64 ((i + 1 : Nat) : Int) → st.fr 6 = .int .i64 c' →
        st.h 0 = ⟨128, natA .u32 (ds.set i e), true, true, true⟩ → 0 < st.nx → J st := by
      intro c' e st h1 h2 h3 k0 k1 k5 k13 k14 k6 kh kn
      refine hJ (i + 1, c', ds.set i e) st ⟨k0, k1, k5, k13, k14, k6, kh, kn, by simp [hlen], hin, h1, set_lt hq h2, ?_⟩ (by simp only; omega)
      try simp only
      rw [hvx, hvy, val_take_set (by omega)]
      exact sub_step hv h3
    clear hJ hv hvx hvy hq
    rw [hB] at hxB hyB
    by_cases hil : i < l
    · have hyy : (enc B32 b)[i]? = some y := by rw [← hy]; exact getD_some (by omega)
      by_cases hneg : x < c + y
      · simp (disch := omega) only [go_sem, Nat.reduceEqDiff, Nat.reduceBEq, ↓reduceIte, reduceCtorEq, g0, g1, g5, g13, g14, g6, hm0, hdl, hx, hyy, hz, hl, hn, wrapU32neg]
        refine key 1 (x + 4294967296 - c - y) _ (by omega) (by omega) (by omega) (by simp [upd_app, g0, natI] <;> omega) (by simp [upd_app, g1, natI] <;> omega) (by simp [upd_app, g5] <;> omega) (by simp [upd_app, g13] <;> omega) (by simp [upd_app] <;> omega) (by simp [upd_app] <;> omega) ?_ (by simp <;> omega)
        have e : ((x : Int) - c - y + 4294967296) = ((x + 4294967296 - c - y : Nat) : Int) := by omega
        simp [upd_app, e, natA_put]
      · simp (disch := omega) only [go_sem, Nat.reduceEqDiff, Nat.reduceBEq, ↓reduceIte, reduceCtorEq, g0, g1, g5, g13, g14, g6, hm0, hdl, hx, hyy, hz, hl, hn]
        refine key 0 (x - c - y) _ (by omega) (by omega) (by omega) (by simp [upd_app, g0, natI] <;> omega) (by simp [upd_app, g1, natI] <;> omega) (by simp [upd_app, g5] <;> omega) (by simp [upd_app, g13] <;> omega) (by simp [upd_app] <;> omega) (by simp [upd_app] <;> omega) ?_ (by simp <;> omega)
        have e : ((x : Int) - c - y) = ((x - c - y : Nat) : Int) := by omega
        simp [upd_app, e, natA_put]
    · obtain rfl : y = 0 := by rw [← hy]; exact getD_none (by omega)
      by_cases hneg : x < c
      · simp (disch := omega) only [go_sem, Nat.reduceEqDiff, Nat.reduceBEq, ↓reduceIte, reduceCtorEq, g0, g1, g5, g13, g14, g6, hm0, hdl, hx, hz, hl, hn, wrapU32neg]
        refine key 1 (x + 4294967296 - c) _ (by omega) (by omega) (by omega) (by simp [upd_app, g0, natI] <;> omega) (by simp [upd_app, g1, natI] <;> omega) (by simp [upd_app, g5] <;> omega) (by simp [upd_app, g13] <;> omega) (by simp [upd_app] <;> omega) (by simp [upd_app] <;> omega) ?_ (by simp <;> omega)
        have e : ((x : Int) - c + 4294967296) = ((x + 4294967296 - c : Nat) : Int) := by omega
        simp [upd_app, e, natA_put]
      · simp (disch := omega) only [go_sem, Nat.reduceEqDiff, Nat.reduceBEq, ↓reduceIte, reduceCtorEq, g0, g1, g5, g13, g14, g6, hm0, hdl, hx, hz, hl, hn]
        refine key 0 (x - c) _ (by omega) (by omega) (by omega) (by simp [upd_app, g0, natI] <;> omega) (by simp [upd_app, g1, natI] <;> omega) (by simp [upd_app, g5] <;> omega) (by simp [upd_app, g13] <;> omega) (by simp [upd_app] <;> omega) (by simp [upd_app] <;> omega) ?_ (by simp <;> omega)
        have e : ((x : Int) - c) = ((x - c : Nat) : Int) := by omega
        simp [upd_app, e, natA_put]
  · obtain rfl : i = n := by omega
    rw [List.take_of_length_le (by omega), List.take_of_length_le (by omega), List.take_of_length_le (by omega), val_enc B32_gt, val_enc B32_gt] at hv
    have hvl := val_lt (B := B32) hq
    rw [hlen] at hvl
    have hval : val B32 ds = a - b := by
      rcases Nat.eq_zero_or_pos c with rfl | hc0
      · simp at hv; omega
      · obtain rfl : c = 1 := by omega
        omega
    clear hJ
    simp (disch := omega) only [go_sem, Nat.reduceEqDiff, Nat.reduceBEq, ↓reduceIte, reduceCtorEq, g0, g1, g5, g13, g14, hm0, hdl]
    refine callW_F (i_Trim (ds.take i) (by simp; omega)) ci_trim (snapL_one (id := 0) (st := ⟨_, _, _⟩) (by exact hm0) (by simp [hlen]) (Nat.le_refl _)) (by simp [hm0]) (by simp [AV.pure, AV.pureL]) (by simp [AV.pure, AV.pureL]) (by simp) ?_
    simp (disch := omega) only [go_sem, Nat.reduceEqDiff, Nat.reduceBEq, ↓reduceIte, reduceCtorEq]
    have e3 : trimZ (ds.take i) = enc B32 (a - b) := by
      rw [List.take_of_length_le (by simp [hlen]), trimZ_enc B32_gt hq, hval]
    rw [e3, ← hQ]
    exact post_one (.inl rfl) rfl (by simp only [upd_app, ↓reduceIte, natI]) (by simp)
attribute [go_sem] w_natSub
theorem w_natOf {n : Int} (h0 : 0 ≤ n) (h1 : n < 18446744073709551616) : CW Tryz.prog 81 [.int .u64 n] (natI n.toNat) :=
 cw (by kernel_rfl) (by simp [AV.pure, AV.pureL]) (by simp [AV.pure, AV.pureL]) (by have := i_natOf n.toNat (by omega); rwa [Int.toNat_of_nonneg h0] at this)
attribute [go_sem] w_natOf
theorem w_natAdd {a b : Nat} (ha : (enc B32 a).length ≤ 1099511627776) (hb : (enc B32 b).length ≤ 1099511627776) : CW Tryz.prog 70 [natI a, natI b] (natI (a + b)) := cw (by kernel_rfl) (by simp [AV.pure, AV.pureL]) (by simp [AV.pure, AV.pureL]) (i_addTo a b ha hb)
attribute [go_sem] w_natAdd
theorem w_natMul {a b : Nat} (ha : (enc B32 a).length ≤ 1099511627776) (hb : (enc B32 b).length ≤ 1099511627776) : CW Tryz.prog 68 [natI a, natI b] (natI (a * b)) := cw (by kernel_rfl) (by simp [AV.pure, AV.pureL]) (by simp [AV.pure, AV.pureL]) (i_mul a b ha hb)
attribute [go_sem] w_natMul
theorem w_natCmp {a b : Nat} (ha : (enc B32 a).length < 9223372036854775808) (hb : (enc B32 b).length < 9223372036854775808) : CW Tryz.prog 67 [natI a, natI b] (.int .i64 (cmpI a b)) := cw (by kernel_rfl) (by simp [AV.pure, AV.pureL]) (by simp [AV.pure, AV.pureL]) (i_Cmp a b ha hb)
attribute [go_sem] w_natCmp
theorem w_natDiv {a b : Nat} (ha : (enc B32 a).length ≤ 1099511627775) (hb0 : b ≠ 0) (hb : (enc B32 b).length ≤ 1099511627775) : CW Tryz.prog 96 [natI a, natI b] (.tup [natI (a / b), natI (a % b)]) := cw (by kernel_rfl) (by simp [AV.pure, AV.pureL]) (by simp [AV.pure, AV.pureL]) (i_div a b ha hb0 hb)
attribute [go_sem] w_natDiv
theorem w_natGcd {a b : Nat} (ha : (enc B32 a).length ≤ 1099511627775) (hb : (enc B32 b).length ≤ 1099511627775) : CW Tryz.prog 82 [natI a, natI b] (natI (Nat.gcd a b)) := cw (by kernel_rfl) (by simp [AV.pure, AV.pureL]) (by simp [AV.pure, AV.pureL]) (i_gcd a b ha hb)
attribute [go_sem] w_natGcd
theorem w_sDigit {xs : List Nat} {i : Nat} (h : xs.length < 9223372036854775808) : CW Tryz.prog 103 [.sl 2 (natA .i64 xs) [] false, .int .i64 i] (.int .i64 (xs.getD i 0 : Nat)) := cw (by kernel_rfl) (by simp [AV.pure, AV.pureL]) (by simp [AV.pure, AV.pureL]) (s_Digit hm' xs i h)
attribute [go_sem] w_sDigit
theorem addS_step {B i x y c e c' A D V : Nat} (hv : A + V = D + B ^ i * c) (h : e + B * c' = x + y + c) : (A + B ^ i * x) + (V + B ^ i * y) = (D + B ^ i * e) + B ^ (i + 1) * c' := by
  have := congrArg (B ^ i * ·) h
  simp only [Nat.mul_add, ← Nat.mul_assoc, ← Nat.pow_add_one] at this
  omega
theorem val_snoc {B : Nat} {xs : List Nat} {e : Nat} : val B (xs ++ [e]) = val B xs + B ^ xs.length * e := by rw [val_append]; simp [val]
theorem enc_of {B : Nat} (hB : 1 < B) {ds : List Nat} {v : Nat} (hq : ∀ d ∈ ds, d < B) (hv : val B ds = v) (hl : ds.length ≤ (enc B v).length) : ds = enc B v := by
 have h1 := trimZ_enc hB hq
 rw [hv] at h1
 have h2 := trimZ_pre ds
 rw [h1, List.take_of_length_le hl] at h2
 exact h2
attribute [go_sem] w_sDigit
theorem w_sNatAdd {a b : Nat} (ha : (enc B9 a).length ≤ 1099511627776) (hb : (enc B9 b).length ≤ 1099511627776) : CW Tryz.prog 87 [natS a, natS b] (natS (a + b)) := by
  refine cw (by kernel_rfl) (by simp [AV.pure, AV.pureL]) (by simp [AV.pure, AV.pureL]) ?_
  (refine callOk_of_wpc (W := fun _ => false) false hm' Tryz.func87 rfl (by kernel_rfl) (Nat.le_of_ble_eq_true rfl) (go_start ?_); generalize hQ : Post Tryz.prog Tryz.f87 _ _ _ _ _ = Q; simp only [stIn, matL, matA, st00, natS])
  have hB : B9 = 1000000000 := rfl
  obtain ⟨n, hn⟩ : ∃ n, (enc B9 a).length = n := ⟨_, rfl⟩
  obtain ⟨l, hl⟩ : ∃ l, (enc B9 b).length = l := ⟨_, rfl⟩
  have hna : n ≤ (enc B9 (a + b)).length := by rw [← hn]; exact enc_len_mono B9_gt (by omega)
  have hlb : l ≤ (enc B9 (a + b)).length := by rw [← hl]; exact enc_len_mono B9_gt (by omega)
  rw [hn] at ha; rw [hl] at hb
  simp (disch := omega) only [go_sem, Nat.reduceEqDiff, Nat.reduceBEq, ↓reduceIte, reduceCtorEq]
  refine k_loop (fun (⟨i, c, ds⟩ : Nat × Nat × List Nat) st => st.fr 0 = natS a ∧ st.fr 1 = natS b ∧ st.fr 5 = .ref 0 i 0 i ∧ st.fr 6 = .int .i64 c ∧ st.fr 7 = .int .i64 i ∧ (∃ ex, st.h 0 = ⟨2, natA .i64 ds, ex, true, true⟩) ∧ 0 < st.nx ∧ (ds.length = i) ∧ (i + c ≤ max n l + 1) ∧ (c ≤ 1) ∧ (∀ d ∈ ds, d < B9) ∧ (i ≤ (enc B9 (a + b)).length) ∧ (val B9 ((enc B9 a).take i) + val B9 ((enc B9 b).take i) = val B9 ds + B9 ^ i * c)) (fun (⟨i, c, ds⟩ : Nat × Nat × List Nat) => 2 * (max n l - i) + c) (0, 0, [])
    ⟨(by simp [upd_app, natS, natA] <;> omega), (by simp [upd_app, natS, natA] <;> omega), (by simp [upd_app, natS, natA] <;> omega), (by simp [upd_app, natS, natA] <;> omega), (by simp [upd_app, natS, natA] <;> omega), ⟨true, (by simp [upd_app, natS, natA] <;> omega)⟩, (by simp <;> omega), rfl, by simp, by simp, by simp, by simp, by simp [val]⟩ ?_
  rintro ⟨i, c, ds⟩ ⟨fr, h, nx⟩ ⟨g0, g1, g5, g6, g7, ⟨ex0, hm0⟩, hnx, hlen, him, hc, hq, hk, hv⟩ J hJ
  simp only at g0 g1 g5 g6 g7 hm0 hnx
  simp only [natS] at g0 g1
  have hdl : (natA .i64 ds).length = i := by rw [natA_length, hlen]
  by_cases hgo : i < n ∨ i < l ∨ 0 < c
  · obtain ⟨x, hx⟩ : ∃ x, (enc B9 a).getD i 0 = x := ⟨_, rfl⟩
    obtain ⟨y, hy⟩ : ∃ y, (enc B9 b).getD i 0 = y := ⟨_, rfl⟩
    have hxB : x < B9 := by rw [← hx]; exact getD_lt B9_gt (enc_lt B9_gt a) i
    have hyB : y < B9 := by rw [← hy]; exact getD_lt B9_gt (enc_lt B9_gt b) i
    have hx0 : n ≤ i → x = 0 := fun h => by rw [← hx]; exact getD_none (by omega)
    have hy0 : l ≤ i → y = 0 := fun h => by rw [← hy]; exact getD_none (by omega)
    have hvx := val_take_getD (B := B9) (xs := enc B9 a) (i := i)
    have hvy := val_take_getD (B := B9) (xs := enc B9 b) (i := i)
    rw [hx] at hvx; rw [hy] at hvy
    obtain ⟨s1, s2, s3⟩ := add_step B9_gt hc hxB hyB
    have hk' : i + 1 ≤ (enc B9 (a + b)).length := by
      rcases hgo with h | h | h
      · omega
      · omega
      · by_cases h2 : i < n ∨ i < l
        · omega
        · rw [List.take_of_length_le (by omega), List.take_of_length_le (by omega), val_enc B9_gt, val_enc B9_gt] at hv
          obtain rfl : c = 1 := by omega
          exact enc_len_ge B9_gt (by omega)
    have key : ∀ st : St, st.fr 0 = natS a → st.fr 1 = natS b → st.fr 5 = .ref 0 (i + 1) 0 (i + 1) → st.fr 6 = .int .i64 (((x + y + c) / 1000000000 : Nat) : Int) → st.fr 7 = .int .i64 ((i + 1 : Nat) : Int) →
        (∃ ex, st.h 0 = ⟨2, natA .i64 (ds ++ [(x + y + c) % 1000000000]), ex, true, true⟩) → 0 < st.nx → J st := by
      intro st k0 k1 k5 k6 k7 kh kn
      rw [show c + x + y = x + y + c by omega] at s1 s2 s3
      have hlast : ¬ i < max n l → (x + y + c) / B9 = 0 := fun h => by rw [hx0 (by omega), hy0 (by omega), Nat.div_eq_of_lt (by simp only [hB]; omega)]
      refine hJ (i + 1, (x + y + c) / B9, ds ++ [(x + y + c) % B9]) st ⟨k0, k1, k5, k6, k7, kh, kn, by simp [hlen], ?_, s1, ?_, hk', ?_⟩ ?_
      · have : (x + y + c) / B9 ≤ 1 := s1
        by_cases h2 : i < max n l
        · omega
        · rw [hlast h2]; omega
      · intro d hd
        rcases List.mem_append.1 hd with h | h
        · exact hq d h
        · rw [List.mem_singleton.1 h]; exact s2
      · try simp only
        rw [hvx, hvy, val_snoc, hlen]
        exact addS_step hv s3
      · try simp only
        have : (x + y + c) / B9 ≤ 1 := s1
        by_cases h2 : i < max n l
        · omega
        · rw [hlast h2]; omega
    clear hJ hv hvx hvy hq hk hk' s1 s2 s3 hx0 hy0
    rw [hB] at hxB hyB
    have n1 : (0 = nx) = False := by simp; omega
    have n2 : (nx = 0) = False := by simp; omega
    rcases (by omega : i < n ∨ (¬ i < n ∧ i < l) ∨ (¬ i < n ∧ ¬ i < l ∧ 0 < c)) with h1 | h1 | h1
    all_goals
      simp (disch := omega) only [go_sem, Nat.reduceEqDiff, Nat.reduceBEq, ↓reduceIte, reduceCtorEq, g0, g1, g5, g6, g7, hm0, hdl, hx, hy, hl, hn, reach, n1, n2]
      (repeat (with_reducible refine Or.inr ?_))
      exact key _ (by simp [upd_app, g0, natS] <;> omega) (by simp [upd_app, g1, natS] <;> omega) (by simp [upd_app] <;> omega) (by simp [upd_app] <;> omega) (by simp [upd_app] <;> omega) ⟨false, by simp [upd_app, n1, n2, hm0, natA]⟩ (by simp <;> omega)
  · rw [List.take_of_length_le (by omega), List.take_of_length_le (by omega), val_enc B9_gt, val_enc B9_gt] at hv
    obtain rfl : c = 0 := by omega
    have hde := enc_of B9_gt hq (show val B9 ds = a + b by simp at hv; omega) (by omega)
    clear hJ
    simp (disch := omega) only [go_sem, Nat.reduceEqDiff, Nat.reduceBEq, ↓reduceIte, reduceCtorEq, g0, g1, g5, g6, g7, hl, hn]
    rw [← hQ]
    exact post_frozen (off := 0) (len := i) (n := i) (id := 0) (.inl rfl) rfl (by simp [upd_app] <;> omega) (by simp [hm0]) (by simp [hm0, natA_length, hlen]) (by simp [hm0]) (by omega) (Nat.zero_le _) (by simp only [hm0, List.drop_zero, natA_take]; rw [List.take_of_length_le (by omega), hde]) (natA_pure _ _)
attribute [go_sem] w_sNatAdd
theorem w_sNatLess {a b : Nat} (ha : (enc B9 a).length ≤ 1099511627776) (hab : b ≤ a) : CW Tryz.prog 88 [natS a, natS b] (natS (a - b)) := by
  refine cw (by kernel_rfl) (by simp [AV.pure, AV.pureL]) (by simp [AV.pure, AV.pureL]) ?_
  (refine callOk_of_wpc (W := fun g => g == 92) false hm' Tryz.func88 rfl (by kernel_rfl) (Nat.le_of_ble_eq_true rfl) (go_start ?_); generalize hQ : Post Tryz.prog Tryz.f88 _ _ _ _ _ = Q; simp only [stIn, matL, matA, st00, natS])
  have hB : B9 = 1000000000 := rfl
  obtain ⟨n, hn⟩ : ∃ n, (enc B9 a).length = n := ⟨_, rfl⟩
  obtain ⟨l, hl⟩ : ∃ l, (enc B9 b).length = l := ⟨_, rfl⟩
  have hln : l ≤ n := by rw [← hl, ← hn]; exact enc_len_mono B9_gt hab
  rw [hn] at ha
  simp (disch := omega) only [go_sem, Nat.reduceEqDiff, Nat.reduceBEq, ↓reduceIte, reduceCtorEq, hn]
  refine k_loop (fun (⟨i, c, ds⟩ : Nat × Nat × List Nat) st => st.fr 0 = natS a ∧ st.fr 1 = natS b ∧ st.fr 5 = .ref 0 i 0 i ∧ st.fr 11 = .int .i64 n ∧ st.fr 12 = .int .i64 i ∧ st.fr 6 = .int .i64 c ∧ (∃ ex, st.h 0 = ⟨2, natA .i64 ds, ex, true, true⟩) ∧ 0 < st.nx ∧ (ds.length = i) ∧ (i ≤ n) ∧ (c ≤ 1) ∧ (∀ d ∈ ds, d < B9) ∧ (val B9 ((enc B9 a).take i) + B9 ^ i * c = val B9 ds + val B9 ((enc B9 b).take i))) (fun (⟨i, c, ds⟩ : Nat × Nat × List Nat) => n - i) (0, 0, [])
    ⟨(by simp [upd_app, natS, natA] <;> omega), (by simp [upd_app, natS, natA] <;> omega), (by simp [upd_app, natS, natA] <;> omega), (by simp [upd_app, natS, natA] <;> omega), (by simp [upd_app, natS, natA] <;> omega), (by simp [upd_app, natS, natA] <;> omega), ⟨true, (by simp [upd_app, natS, natA] <;> omega)⟩, (by simp <;> omega), rfl, by simp, by simp, by simp, by simp [val]⟩ ?_
  rintro ⟨i, c, ds⟩ ⟨fr, h, nx⟩ ⟨g0, g1, g5, g11, g12, g6, ⟨ex0, hm0⟩, hnx, hlen, hi, hc, hq, hv⟩ J hJ
  simp only at g0 g1 g5 g11 g12 g6 hm0 hnx
  simp only [natS] at g0 g1
  have hdl : (natA .i64 ds).length = i := by rw [natA_length, hlen]
  have n1 : (0 = nx) = False := by simp; omega
  have n2 : (nx = 0) = False := by simp; omega
  by_cases hin : i < n
  · obtain ⟨x, hx⟩ := get_some (xs := enc B9 a) (i := i) (by omega)
    have hxB : x < B9 := enc_lt B9_gt a x (List.mem_of_getElem? hx)
    obtain ⟨y, hy⟩ : ∃ y, (enc B9 b).getD i 0 = y := ⟨_, rfl⟩
    have hyB : y < B9 := by rw [← hy]; exact getD_lt B9_gt (enc_lt B9_gt b) i
    have hvx := val_take_succ (B := B9) hx
    have hvy := val_take_getD (B := B9) (xs := enc B9 b) (i := i)
    rw [hy] at hvy
    have key : ∀ (c' e : Nat) (st : St), c' ≤ 1 → e < B9 → x + B9 * c' = e + y + c → st.fr 0 = natS a → st.fr 1 = natS b → st.fr 5 = .ref 0 (i + 1) 0 (i + 1) → st.fr 11 = .int .i64 n → st.fr 12 = .int .i64 ((i + 1 : Nat) : Int) → st.fr 6 = .int .i64 c' →
        (∃ ex, st.h 0 = ⟨2, natA .i64 (ds ++ [e]), ex, true, true⟩) → 0 < st.nx → J st := by
      intro c' e st h1 h2 h3 k0 k1 k5 k11 k12 k6 kh kn
      refine hJ (i + 1, c', ds ++ [e]) st ⟨k0, k1, k5, k11, k12, k6, kh, kn, by simp [hlen], hin, h1, ?_, ?_⟩ (by simp only; omega)
      · intro d hd
        rcases List.mem_append.1 hd with h | h
        · exact hq d h
        · rw [List.mem_singleton.1 h]; exact h2
      · try simp only
        rw [hvx, hvy, val_snoc, hlen]
        exact sub_step hv h3
    clear hJ hv hvx hvy hq
    rw [hB] at hxB hyB
    simp only [hB] at key
    by_cases hneg : x < y + c
    · simp (disch := omega) only [go_sem, Nat.reduceEqDiff, Nat.reduceBEq, ↓reduceIte, reduceCtorEq, g0, g1, g5, g11, g12, g6, hm0, hdl, hx, hy, hl, hn, reach, n1, n2]
      (repeat (with_reducible refine Or.inr ?_))
      have e : ((x : Int) - y - c + 1000000000) = ((x + 1000000000 - y - c : Nat) : Int) := by omega
      exact key 1 (x + 1000000000 - y - c) _ (by omega) (by omega) (by omega) (by simp [upd_app, g0, natS] <;> omega) (by simp [upd_app, g1, natS] <;> omega) (by simp [upd_app] <;> omega) (by simp [upd_app, g11] <;> omega) (by simp [upd_app] <;> omega) (by simp [upd_app] <;> omega) ⟨false, by simp [upd_app, n1, n2, hm0, natA, e]⟩ (by simp <;> omega)
    · simp (disch := omega) only [go_sem, Nat.reduceEqDiff, Nat.reduceBEq, ↓reduceIte, reduceCtorEq, g0, g1, g5, g11, g12, g6, hm0, hdl, hx, hy, hl, hn, reach, n1, n2]
      (repeat (with_reducible refine Or.inr ?_))
      have e : ((x : Int) - y - c) = ((x - y - c : Nat) : Int) := by omega
      exact key 0 (x - y - c) _ (by omega) (by omega) (by omega) (by simp [upd_app, g0, natS] <;> omega) (by simp [upd_app, g1, natS] <;> omega) (by simp [upd_app] <;> omega) (by simp [upd_app, g11] <;> omega) (by simp [upd_app] <;> omega) (by simp [upd_app] <;> omega) ⟨false, by simp [upd_app, n1, n2, hm0, natA, e]⟩ (by simp <;> omega)
  · obtain rfl : i = n := by omega
    rw [List.take_of_length_le (by omega), List.take_of_length_le (by omega), val_enc B9_gt, val_enc B9_gt] at hv
    have hvl := val_lt (B := B9) hq
    rw [hlen] at hvl
    have hval : val B9 ds = a - b := by
      rcases Nat.eq_zero_or_pos c with rfl | hc0
      · simp at hv; omega
      · obtain rfl : c = 1 := by omega
        omega
    clear hJ
    simp (disch := omega) only [go_sem, Nat.reduceEqDiff, Nat.reduceBEq, ↓reduceIte, reduceCtorEq, g0, g1, g5, g11, g12, hm0, hdl]
    refine callW_F (s_Trim hm' (ds.take i) (by simp; omega)) c_Trim (snapL_oneX (id := 0) (st := ⟨_, _, _⟩) (by exact hm0) (by simp [hlen]) (Nat.le_refl _)) (by simp [hm0]) (by simp [AV.pure, AV.pureL]) (by simp [AV.pure, AV.pureL]) (by simp) ?_
    simp (disch := omega) only [go_sem, Nat.reduceEqDiff, Nat.reduceBEq, ↓reduceIte, reduceCtorEq]
    have e3 : trimZ (ds.take i) = enc B9 (a - b) := by
      rw [List.take_of_length_le (by simp [hlen]), trimZ_enc B9_gt hq, hval]
    rw [e3, ← hQ]
    exact post_one (.inl rfl) rfl (by simp only [upd_app, ↓reduceIte, natS]) (natS_pure _)
attribute [go_sem] w_sNatLess
theorem w_sNatMul {a b : Nat} (ha : (enc B9 a).length ≤ 1099511627776) (hb : (enc B9 b).length ≤ 1099511627776) : CW Tryz.prog 61 [natS a, natS b] (natS (a * b)) := by
  refine cw (by kernel_rfl) (by simp [AV.pure, AV.pureL]) (by simp [AV.pure, AV.pureL]) ?_
  (refine callOk_of_wpc (W := fun g => g == 92) false hm' Tryz.func61 rfl (by kernel_rfl) (Nat.le_of_ble_eq_true rfl) (go_start ?_); generalize hQ : Post Tryz.prog Tryz.f61 _ _ _ _ _ = Q; simp only [stIn, matL, matA, st00, natS])
  have hB : B9 = 1000000000 := rfl
  obtain ⟨n, hn⟩ : ∃ n, (enc B9 a).length = n := ⟨_, rfl⟩
  obtain ⟨l, hl⟩ : ∃ l, (enc B9 b).length = l := ⟨_, rfl⟩
  rw [hn] at ha; rw [hl] at hb
  have hblt : b < B9 ^ l := by rw [← hl]; exact enc_len_pow B9_gt
  simp (disch := omega) only [go_sem, Nat.reduceEqDiff, Nat.reduceBEq, ↓reduceIte, reduceCtorEq, hn, hl, reach]
  refine k_loop (fun (⟨i, ds⟩ : Nat × List Nat) st => st.fr 0 = natS a ∧ st.fr 1 = natS b ∧ st.fr 5 = .ref 0 (n + l) 0 (n + l) ∧ st.fr 17 = .int .i64 n ∧ st.fr 18 = .int .i64 i ∧ st.h 0 = ⟨2, natA .i64 ds, true, true, true⟩ ∧ 0 < st.nx ∧ (ds.length = n + l) ∧ (i ≤ n) ∧ (∀ d ∈ ds, d < B9) ∧ (val B9 ds = val B9 ((enc B9 a).take i) * b)) (fun (⟨i, ds⟩ : Nat × List Nat) => n - i) (0, List.replicate (n + l) 0)
    ⟨(by simp [upd_app, natS] <;> omega), (by simp [upd_app, natS] <;> omega), (by simp [upd_app, natS] <;> omega), (by simp [upd_app, natS] <;> omega), (by simp [upd_app, natS] <;> omega), (by simp [upd_app, natS] <;> omega), (by simp <;> omega), by simp, by simp, zeros_lt B9_gt, by simp [val_zeros, val]⟩ ?_
  rintro ⟨i, ds⟩ ⟨fr, h, nx⟩ ⟨g0, g1, g5, g17, g18, hm0, hnx, hlen, hi, hq, hv⟩ J hJ
  simp only at g0 g1 g5 g17 g18 hm0 hnx
  simp only [natS] at g0 g1
  have hdl : (natA .i64 ds).length = n + l := by rw [natA_length, hlen]
  by_cases hin : i < n
  · obtain ⟨u, hu⟩ := get_some (xs := enc B9 a) (i := i) (by omega)
    have huB : u < B9 := enc_lt B9_gt a u (List.mem_of_getElem? hu)
    have hvu := val_take_succ (B := B9) hu
    have hlow : val B9 ds < B9 ^ (i + l) := by
      rw [hv]
      refine mul_pos_lt ?_ hblt
      have := val_lt (B := B9) (xs := (enc B9 a).take i) (fun d hd => enc_lt B9_gt a d (List.mem_of_mem_take hd))
      rwa [show ((enc B9 a).take i).length = i by simp; omega] at this
    simp (disch := omega) only [go_sem, Nat.reduceEqDiff, Nat.reduceBEq, ↓reduceIte, reduceCtorEq, g0, g1, g5, g17, g18, hm0, hdl, hu, hl]
    refine k_loop (fun (⟨k, c, es⟩ : Nat × Nat × List Nat) st => st.fr 0 = natS a ∧ st.fr 1 = natS b ∧ st.fr 5 = .ref 0 (n + l) 0 (n + l) ∧ st.fr 17 = .int .i64 n ∧ st.fr 18 = .int .i64 i ∧ st.fr 6 = .int .i64 i ∧ st.fr 7 = .int .i64 c ∧ st.fr 22 = .int .i64 l ∧ st.fr 23 = .int .i64 k ∧ st.h 0 = ⟨2, natA .i64 es, true, true, true⟩ ∧ 0 < st.nx ∧ (es.length = n + l) ∧ (k ≤ l) ∧ (c < B9) ∧ (∀ q ∈ es, q < B9) ∧ (val B9 es + B9 ^ (i + k) * c = val B9 ds + B9 ^ i * u * val B9 ((enc B9 b).take k)) ∧ (es.drop (i + k) = ds.drop (i + k))) (fun (⟨k, c, es⟩ : Nat × Nat × List Nat) => l - k) (0, 0, ds)
      ⟨(by simp [upd_app, natS, g0, g1, g5, g17, g18, hm0] <;> omega), (by simp [upd_app, natS, g0, g1, g5, g17, g18, hm0] <;> omega), (by simp [upd_app, natS, g0, g1, g5, g17, g18, hm0] <;> omega), (by simp [upd_app, natS, g0, g1, g5, g17, g18, hm0] <;> omega), (by simp [upd_app, natS, g0, g1, g5, g17, g18, hm0] <;> omega), (by simp [upd_app, natS, g0, g1, g5, g17, g18, hm0] <;> omega), (by simp [upd_app, natS, g0, g1, g5, g17, g18, hm0] <;> omega), (by simp [upd_app, natS, g0, g1, g5, g17, g18, hm0] <;> omega), (by simp [upd_app, natS, g0, g1, g5, g17, g18, hm0] <;> omega), (by simp [upd_app, natS, g0, g1, g5, g17, g18, hm0] <;> omega), (by simp <;> omega), hlen, by simp, by simp [B9], hq, by simp [val], rfl⟩ ?_
    rintro ⟨k, c, es⟩ ⟨fr, h, nx⟩ ⟨g0, g1, g5, g17, g18, g6, g7, g22, g23, hm0, hnx, hel, hk, hc, hp, hw, hd⟩ J2 hJ2
    simp only at g0 g1 g5 g17 g18 g6 g7 g22 g23 hm0 hnx
    simp only [natS] at g0 g1
    have hdl : (natA .i64 es).length = n + l := by rw [natA_length, hel]
    by_cases hkl : k < l
    · obtain ⟨y, hy⟩ := get_some (xs := enc B9 b) (i := k) (by omega)
      obtain ⟨o, ho⟩ := get_some (xs := es) (i := i + k) (by omega)
      have hyB : y < B9 := enc_lt B9_gt b y (List.mem_of_getElem? hy)
      have hoB : o < B9 := hp o (List.mem_of_getElem? ho)
      obtain ⟨s1, s2, s3⟩ := mul_step hc huB hyB hoB
      have hset := fun v => val_set (B := B9) (v := v) ho
      have hvy := val_take_succ (B := B9) hy
      have key : ∀ st : St, st.fr 0 = natS a → st.fr 1 = natS b → st.fr 5 = .ref 0 (n + l) 0 (n + l) → st.fr 17 = .int .i64 n → st.fr 18 = .int .i64 i → st.fr 6 = .int .i64 i →
          st.fr 7 = .int .i64 (((o + u * y + c) / 1000000000 : Nat) : Int) → st.fr 22 = .int .i64 l → st.fr 23 = .int .i64 ((k + 1 : Nat) : Int) →
          st.h 0 = ⟨2, natA .i64 (es.set (i + k) ((o + u * y + c) % 1000000000)), true, true, true⟩ → 0 < st.nx → J2 st := by
        intro st k0 k1 k5 k17 k18 k6 k7 k22 k23 kh kn
        rw [show c + (u * y + o) = o + u * y + c by omega] at s1 s2
        refine hJ2 (k + 1, (o + u * y + c) / B9, es.set (i + k) ((o + u * y + c) % B9)) st ⟨k0, k1, k5, k17, k18, k6, k7, k22, k23, kh, kn, by simp [hel], hkl, s1, set_lt hp s2, ?_, ?_⟩ (by simp only; omega)
        · have h1 := hset ((o + u * y + c) % B9)
          have h2 : B9 ^ (i + k) * ((o + u * y + c) % B9 + B9 * ((o + u * y + c) / B9)) = B9 ^ (i + k) * (o + u * y + c) := by rw [Nat.mod_add_div]
          have h3 : B9 ^ i * u * (B9 ^ k * y) = B9 ^ (i + k) * (u * y) := by rw [Nat.pow_add, Nat.mul_assoc, Nat.mul_assoc]; congr 1; rw [Nat.mul_left_comm]
          rw [Nat.mul_add, Nat.mul_add, Nat.mul_add, ← Nat.mul_assoc] at h2
          simp only [hvy]
          rw [Nat.mul_add, h3, ← Nat.add_assoc i k 1, Nat.pow_succ]; omega
        · try simp only
          rw [List.drop_set_of_lt (by omega)]
          have := congrArg (List.drop 1) hd
          rw [List.drop_drop, List.drop_drop] at this
          exact this
      clear hJ hJ2 hw hd hset s1 s2 hvy hv hlow hvu
      rw [hB] at huB hyB hoB hc s3
      obtain ⟨z, hz⟩ : ∃ z, u * y = z := ⟨_, rfl⟩
      have hz3 : z ≤ 999999998000000001 := by
        have : u * y ≤ 999999999 * 999999999 := Nat.mul_le_mul (by omega) (by omega)
        omega
      rw [hz] at key
      simp (disch := omega) only [go_sem, Nat.reduceEqDiff, Nat.reduceBEq, ↓reduceIte, reduceCtorEq, g0, g1, g5, g17, g18, g6, g7, g22, g23, hm0, hdl, hel, hu, hy, ho, hz]
      exact key _ (by simp [upd_app, g0, natS] <;> omega) (by simp [upd_app, g1, natS] <;> omega) (by simp [upd_app, g5] <;> omega) (by simp [upd_app, g17] <;> omega) (by simp [upd_app, g18] <;> omega) (by simp [upd_app, g6] <;> omega) (by simp [upd_app] <;> omega) (by simp [upd_app, g22] <;> omega) (by simp [upd_app] <;> omega) (by simp [upd_app] <;> omega) (by simp <;> omega)
    · obtain rfl : k = l := by omega
      have eb : (enc B9 b).take k = enc B9 b := List.take_of_length_le (by omega)
      rw [eb, val_enc B9_gt] at hw
      obtain ⟨o, ho⟩ := get_some (xs := es) (i := i + k) (by omega)
      have ho' : ds[i + k]? = some o := by
        have := congrArg (·[0]?) hd
        simp only [List.getElem?_drop, Nat.add_zero] at this; rw [← this]; exact ho
      obtain rfl : o = 0 := zero_at B9_gt hq ho' hlow
      have hset := val_set (B := B9) (v := c) ho
      have key : ∀ st : St, st.fr 0 = natS a → st.fr 1 = natS b → st.fr 5 = .ref 0 (n + k) 0 (n + k) → st.fr 17 = .int .i64 n → st.fr 18 = .int .i64 ((i + 1 : Nat) : Int) →
          st.h 0 = ⟨2, natA .i64 (es.set (i + k) c), true, true, true⟩ → 0 < st.nx → J st := by
        intro st k0 k1 k5 k17 k18 kh kn
        refine hJ (i + 1, es.set (i + k) c) st ⟨k0, k1, k5, k17, k18, kh, kn, by simp [hel], hin, set_lt hp hc, ?_⟩ (by simp only; omega)
        simp only [Nat.mul_zero, Nat.add_zero] at hset
        try simp only
        rw [hset, hw, hvu, hv, Nat.add_mul]
      clear hJ hJ2 hw hd hset hv hlow hvu
      rw [hB] at hc
      simp (disch := omega) only [go_sem, Nat.reduceEqDiff, Nat.reduceBEq, ↓reduceIte, reduceCtorEq, g0, g1, g5, g17, g18, g6, g7, g22, g23, hm0, hdl, hel, ho, hl]
      exact key _ (by simp [upd_app, g0, natS] <;> omega) (by simp [upd_app, g1, natS] <;> omega) (by simp [upd_app, g5] <;> omega) (by simp [upd_app, g17] <;> omega) (by simp [upd_app] <;> omega) (by simp [upd_app] <;> omega) (by simp <;> omega)
  · obtain rfl : i = n := by omega
    have ex : (enc B9 a).take i = enc B9 a := List.take_of_length_le (by omega)
    rw [ex, val_enc B9_gt] at hv
    clear hJ
    simp (disch := omega) only [go_sem, Nat.reduceEqDiff, Nat.reduceBEq, ↓reduceIte, reduceCtorEq, g0, g1, g5, g17, g18, hm0, hdl]
    refine callW_F (s_Trim hm' (ds.take (i + l)) (by simp; omega)) c_Trim (snapL_oneX (id := 0) (st := ⟨_, _, _⟩) (by exact hm0) (by simp [hlen]) (Nat.le_refl _)) (by simp [hm0]) (by simp [AV.pure, AV.pureL]) (by simp [AV.pure, AV.pureL]) (by simp) ?_
    simp (disch := omega) only [go_sem, Nat.reduceEqDiff, Nat.reduceBEq, ↓reduceIte, reduceCtorEq]
    have e3 : trimZ (ds.take (i + l)) = enc B9 (a * b) := by
      rw [List.take_of_length_le (by simp [hlen]), trimZ_enc B9_gt hq, hv]
    rw [e3, ← hQ]
    exact post_one (.inl rfl) rfl (by simp only [upd_app, ↓reduceIte, natS]) (natS_pure _)
attribute [go_sem] w_sNatMul
theorem w_sNat {n : Int} (h0 : 0 ≤ n) (h1 : n < 9223372036854775808) : CW Tryz.prog 89 [.int .i64 n] (natS n.toNat) :=
 cw (by kernel_rfl) (by simp [AV.pure, AV.pureL]) (by simp [AV.pure, AV.pureL]) (by have := s_Nat hm' n.toNat (by omega); rwa [Int.toNat_of_nonneg h0] at this)
attribute [go_sem] w_sNat
theorem w_sCmp {a b : Nat} (ha : (enc B9 a).length < 9223372036854775808) (hb : (enc B9 b).length < 9223372036854775808) : CW Tryz.prog 60 [natS a, natS b] (.int .i64 (cmpI a b)) := cw (by kernel_rfl) (by simp [AV.pure, AV.pureL]) (by simp [AV.pure, AV.pureL]) (s_Cmp hm' a b ha hb)
attribute [go_sem] w_sCmp
theorem w_sDiv {a b : Nat} (ha : (enc B9 a).length ≤ 1099511627775) (hb0 : b ≠ 0) (hb : (enc B9 b).length ≤ 1099511627775) : CW Tryz.prog 97 [natS a, natS b] (.tup [natS (a / b), natS (a % b)]) := cw (by kernel_rfl) (by simp [AV.pure, AV.pureL]) (by simp [AV.pure, AV.pureL]) (s_NatDiv a b ha hb0 hb)
attribute [go_sem] w_sDiv
theorem w_sGcd {a b : Nat} (ha : (enc B9 a).length ≤ 1099511627775) (hb : (enc B9 b).length ≤ 1099511627775) : CW Tryz.prog 75 [natS a, natS b] (natS (Nat.gcd a b)) := cw (by kernel_rfl) (by simp [AV.pure, AV.pureL]) (by simp [AV.pure, AV.pureL]) (s_Gcd a b ha hb)
attribute [go_sem] w_sGcd
theorem self_mkRat (a : Rat) : a = mkRat (sg (qd a).1 (qd a).2.1) (qd a).2.2 := by rw [qd_sg]; exact (Rat.mkRat_self a).symm
theorem sg_mul (p : Bool) (x e : Nat) : sg p (x * e) = sg p x * e := by cases p <;> simp [sg, Int.neg_mul]
theorem scale_mkRat {p : Bool} {x d e : Nat} (he : e ≠ 0) : mkRat (sg p x) d = mkRat (sg p (x * e)) (d * e) := by rw [sg_mul]; exact (Rat.mkRat_mul_right he).symm
theorem add_common {a b : Rat} {p q : Int} {c : Nat} (ha : a = mkRat p c) (hb : b = mkRat q c) : a + b = mkRat (p + q) c := by
 rw [ha, hb, Rat.mkRat_eq_div, Rat.mkRat_eq_div, Rat.mkRat_eq_div, Rat.intCast_add, Rat.div_def, Rat.div_def, Rat.div_def, Rat.add_mul]
theorem sg_same {p : Bool} {x y : Nat} : sg p x + sg p y = sg p (x + y) := by cases p <;> simp [sg] <;> omega
theorem sg_ge {p q : Bool} {x y : Nat} (h : p ≠ q) (hxy : y ≤ x) : sg p x + sg q y = sg p (x - y) := by cases p <;> cases q <;> simp_all [sg] <;> omega
theorem sg_lt {p q : Bool} {x y : Nat} (h : p ≠ q) (hxy : x ≤ y) : sg p x + sg q y = sg q (y - x) := by cases p <;> cases q <;> simp_all [sg] <;> omega
theorem qd_int (n : Int) : qd (n : Rat) = (decide (n < 0), n.natAbs, 1) := Prod.ext (decide_eq_decide.2 Iff.rfl) rfl
theorem fits_int {n : Int} {k : Nat} (h : n.natAbs < 2 ^ k) (hk : 0 < k) : fits k (n : Rat) := ⟨by simpa using h, by simpa using Nat.one_lt_two_pow (by omega)⟩
theorem fits_pos {n : Nat} {q : Rat} (h : fits n q) : 0 < n := by
  have := q.den_pos
  rcases Nat.eq_zero_or_pos n with rfl | h0
  · have := h.2; simp at this; omega
  · exact h0
theorem den_ne (a : Rat) : a.den ≠ 0 := a.den_nz
theorem num_neg (a : Rat) : decide (a.num < 0) = decide (a < 0) := decide_eq_decide.2 (by rw [← Int.not_le, Rat.num_nonneg, Rat.not_le])
theorem num_zero {a : Rat} : a.num = 0 ↔ a = 0 := Rat.num_eq_zero
theorem post_cell1 {P : Program} {fn : Func} {n0 : Nat} {fl : Bool} {t : Tmp} {T id : Nat} {x r : AV} {st : St} {e : Ex} (he : e = .ret ∨ e = .normal) (hr : fn.results.toList = [.cell t T]) (hok : okT P T = true) (hv : st.fr t = .ptr id 1 0 0) (hlv : (st.h id).lv = true) (hx : (st.h id).xs = [x])
  (hl : ldA P T x 0 = some r) (hp : r.pure = true) : Post P fn n0 fl false r [] e st := by
 refine ⟨by rcases he with rfl | rfl <;> trivial, r, by rw [hr]; simp [resV, resL, resA, hv, hok, loadA, hlv, hx, hl], [], ?_, .inl rfl⟩
 simp only [Bool.false_eq_true, if_false]
 exact ⟨snapA_pure hp, by simp⟩
theorem natI0 : natI 0 = .sl 128 [] [] false := by simp [natI, enc_zero, natA]
theorem enc_one {B : Nat} (hB : 1 < B) : enc B 1 = [1] := by rw [enc_pos hB (by omega), Nat.mod_eq_of_lt hB, Nat.div_eq_of_lt hB, enc_zero]
theorem one_len {B g x : Nat} (hB : 1 < B) (hl : (enc B g).length = 1) (hx : (enc B g)[0]? = some x) : x = g := by
 obtain ⟨y, hy⟩ := List.length_eq_one_iff.1 hl
 have := val_enc hB g
 rw [hy] at this hx
 simp [val] at this hx
 omega
theorem w_natOf1 : CW Tryz.prog 81 [.int .u64 1] (natI 1) := w_natOf (n := 1) (by omega) (by omega)
theorem enc_div_len {B m g : Nat} (hB : 1 < B) : (enc B (m / g)).length ≤ (enc B m).length := enc_len_mono hB (Nat.div_le_self _ _)
theorem cmpI_ne {m n : Nat} (h : m ≠ n) : cmpI m n ≠ 0 := by
  rcases Nat.lt_or_gt_of_ne h with h | h
  · rw [cmpI_lt h]; decide
  · rw [cmpI_gt h]; decide
theorem cmpI_ge {m n : Nat} (h : n ≤ m) : 0 ≤ cmpI m n := by
  rcases Nat.eq_or_lt_of_le h with rfl | h
  · rw [cmpI_eq]; decide
  · rw [cmpI_gt h]; decide
def lowQ (b : Bool) (m n : Nat) : Qd := (b && decide (m ≠ 0), m / Nat.gcd m n, n / Nat.gcd m n)
theorem low_mkRat {b : Bool} {m n : Nat} (h : n ≠ 0) : qd (mkRat (sg b m) n) = lowQ b m n := qd_mkRat b m n h
theorem add_low {a b : Rat} {p q : Bool} {X Y C : Nat} (hC : C ≠ 0) (ha : a = mkRat (sg p X) C) (hb : b = mkRat (sg q Y) C) :
    (p = q → qd (a + b) = lowQ p (X + Y) C) ∧ (p ≠ q → Y ≤ X → qd (a + b) = lowQ p (X - Y) C) ∧ (p ≠ q → X ≤ Y → qd (a + b) = lowQ q (Y - X) C) := by
  have h := add_common ha hb
  refine ⟨fun e => ?_, fun e l => ?_, fun e l => ?_⟩
  · subst e; rw [h, sg_same, low_mkRat hC]
  · rw [h, sg_ge e l, low_mkRat hC]
  · rw [h, sg_lt e l, low_mkRat hC]
theorem w_low {b : Bool} {m n : Nat} (hm : (enc B32 m).length ≤ 1099511627775) (hn : (enc B32 n).length ≤ 1099511627775) (h0 : n ≠ 0) :
    CW Tryz.prog 69 [.bool b, natI m, natI n] (.agg [.bool (b && decide (m ≠ 0)), natI (m / Nat.gcd m n), natI (n / Nat.gcd m n)]) := by
  refine cw (by kernel_rfl) (by simp [AV.pure, AV.pureL]) (by simp [AV.pure, AV.pureL]) ?_
  have h1 := w_natOf1
  simp only [natI] at h1
  by_cases hz : m = 0
  · subst hz
    refine CallOk.res (r := .agg [.bool false, .nil, natI 1]) ?_ (sub_agg (SubL.cons (by simpa using Sub.refl _) (SubL.cons (by rw [Nat.zero_div, natI0]; exact sub_nil) (SubL.cons (by rw [Nat.gcd_zero_left, Nat.div_self (by omega)]; exact Sub.refl _) .nil))))
    (refine callOk_of_wpc (W := fun _ => false) false hm' Tryz.func69 rfl (by kernel_rfl) (Nat.le_of_ble_eq_true rfl) (go_start ?_); generalize hQ : Post Tryz.prog Tryz.f69 _ _ _ _ _ = Q; simp only [stIn, matL, matA, st00, natI])
    simp (disch := omega) only [go_sem, Nat.reduceEqDiff, Nat.reduceBEq, ↓reduceIte, reduceCtorEq, enc_zero, natA_nil, List.length_nil, h1]
    (repeat (with_reducible refine Or.inr ?_))
    rw [← hQ]
    exact post_cell1 (id := 0) (x := .agg [.bool false, .nil, natI 1]) (.inl rfl) rfl o_iRat (by simp [upd_app] <;> omega) (by simp [upd_app]) (by simp [upd_app, natI]) ld_iRat (by simp [AV.pure, AV.pureL])
  have hml : 0 < (enc B32 m).length := enc_len_pos B32_gt hz
  obtain ⟨g, hg⟩ : ∃ g, Nat.gcd m n = g := ⟨_, rfl⟩
  have hg0 : g ≠ 0 := by rw [← hg]; exact Nat.ne_of_gt (Nat.gcd_pos_of_pos_left _ (by omega))
  have hgm : (enc B32 g).length ≤ 1099511627775 := Nat.le_trans (enc_len_mono B32_gt (by rw [← hg]; exact Nat.le_of_dvd (by omega) (Nat.gcd_dvd_left m n))) hm
  have hgl := enc_len_pos B32_gt hg0
  have h2 := w_natGcd (a := m) (b := n) hm hn
  have h3 := w_natDiv (a := m) (b := g) hm hg0 hgm
  have h4 := w_natDiv (a := n) (b := g) hn hg0 hgm
  rw [hg] at h2 ⊢
  simp only [natI] at h2 h3 h4
  obtain ⟨x, hx⟩ := get_some (xs := enc B32 g) (i := 0) hgl
  have hx' : (enc B32 g)[Int.toNat 0]? = some x := hx
  rw [show (b && decide (m ≠ 0)) = b by simp [hz]]
  by_cases h1g : g = 1
  · subst h1g
    rw [Nat.div_one, Nat.div_one]
    rw [enc_one B32_gt] at hx hx' h2
    obtain rfl : x = 1 := by simpa using hx.symm
    (refine callOk_of_wpc (W := fun _ => false) false hm' Tryz.func69 rfl (by kernel_rfl) (Nat.le_of_ble_eq_true rfl) (go_start ?_); generalize hQ : Post Tryz.prog Tryz.f69 _ _ _ _ _ = Q; simp only [stIn, matL, matA, st00, natI])
    simp (disch := omega) only [go_sem, Nat.reduceEqDiff, Nat.reduceBEq, ↓reduceIte, reduceCtorEq, h2, hx', natA_length, List.length_cons, List.length_nil]
    (repeat (with_reducible refine Or.inr ?_))
    rw [← hQ]
    exact post_cell1 (id := 0) (x := .agg [.bool b, natI m, natI n]) (.inl rfl) rfl o_iRat (by simp [upd_app] <;> omega) (by simp [upd_app]) (by simp [upd_app, natI]) ld_iRat (by simp [AV.pure, AV.pureL])
  · by_cases hl1 : (enc B32 g).length = 1
    · have hxg := one_len B32_gt hl1 hx
      (refine callOk_of_wpc (W := fun _ => false) false hm' Tryz.func69 rfl (by kernel_rfl) (Nat.le_of_ble_eq_true rfl) (go_start ?_); generalize hQ : Post Tryz.prog Tryz.f69 _ _ _ _ _ = Q; simp only [stIn, matL, matA, st00, natI])
      simp (disch := omega) only [go_sem, Nat.reduceEqDiff, Nat.reduceBEq, ↓reduceIte, reduceCtorEq, h2, h3, h4, hx', hl1]
      (repeat (with_reducible refine Or.inr ?_))
      rw [← hQ]
      exact post_cell1 (id := 0) (x := .agg [.bool b, natI (m / g), natI (n / g)]) (.inl rfl) rfl o_iRat (by simp [upd_app] <;> omega) (by simp [upd_app]) (by simp [upd_app, natI]) ld_iRat (by simp [AV.pure, AV.pureL])
    · (refine callOk_of_wpc (W := fun _ => false) false hm' Tryz.func69 rfl (by kernel_rfl) (Nat.le_of_ble_eq_true rfl) (go_start ?_); generalize hQ : Post Tryz.prog Tryz.f69 _ _ _ _ _ = Q; simp only [stIn, matL, matA, st00, natI])
      simp (disch := omega) only [go_sem, Nat.reduceEqDiff, Nat.reduceBEq, ↓reduceIte, reduceCtorEq, h2, h3, h4]
      (repeat (with_reducible refine Or.inr ?_))
      rw [← hQ]
      exact post_cell1 (id := 0) (x := .agg [.bool b, natI (m / g), natI (n / g)]) (.inl rfl) rfl o_iRat (by simp [upd_app] <;> omega) (by simp [upd_app]) (by simp [upd_app, natI]) ld_iRat (by simp [AV.pure, AV.pureL])
attribute [go_sem] w_natOf1
theorem w_mag {n : Int} (h0 : -9223372036854775808 ≤ n) (h1 : n < 9223372036854775808) : CW Tryz.prog 83 [.int .i64 n] (.int .u64 n.natAbs) := by
  refine cw (by kernel_rfl) (by simp [AV.pure, AV.pureL]) (by simp [AV.pure, AV.pureL]) ?_
  (refine callOk_of_wpc (W := fun _ => false) false hm' Tryz.func83 rfl (by kernel_rfl) (Nat.le_of_ble_eq_true rfl) (go_start ?_); generalize hQ : Post Tryz.prog Tryz.f83 _ _ _ _ _ = Q; simp only [stIn, matL, matA, st00])
  by_cases hn : n < 0
  · have e1 : IntKind.u64.wrap n = n + 18446744073709551616 := by simp only [IntKind.wrap, IntKind.signed, IntKind.bits, Bool.false_and, Bool.false_eq_true, if_false]; omega
    have e2 : IntKind.u64.wrap (0 - (n + 18446744073709551616)) = n.natAbs := by simp only [IntKind.wrap, IntKind.signed, IntKind.bits, Bool.false_and, Bool.false_eq_true, if_false]; omega
    simp (disch := omega) only [go_sem, Nat.reduceEqDiff, Nat.reduceBEq, ↓reduceIte, reduceCtorEq, e1, e2]
    rw [← hQ]
    exact post_one (.inl rfl) rfl (by simp [upd_app] <;> omega) rfl
  · have e1 : (n.natAbs : Int) = n := by omega
    rw [e1] at hQ
    simp (disch := omega) only [go_sem, Nat.reduceEqDiff, Nat.reduceBEq, ↓reduceIte, reduceCtorEq]
    rw [← hQ]
    exact post_one (.inl rfl) rfl (by simp [upd_app] <;> omega) rfl
attribute [go_sem] w_mag
attribute [go_sem] w_mag
theorem w_whole {n : Int} (h0 : -9223372036854775808 ≤ n) (h1 : n < 9223372036854775808) : CW Tryz.prog 48 [.int .i64 n] (rI 64 (n : Rat)) := by
 refine cw (by kernel_rfl) (by simp [AV.pure, AV.pureL]) (by simp [AV.pure, AV.pureL]) ?_
 rw [rI_eq (fits_int (by omega) (by omega)), qd_int, ratI]
 have h2 := w_natOf1
 have h3 := w_natOf (n := n.natAbs) (by omega) (by omega)
 rw [Int.toNat_natCast] at h3
 simp only [natI] at h2 h3
 (refine callOk_of_wpc (W := fun _ => false) false hm' Tryz.func48 rfl (by kernel_rfl) (Nat.le_of_ble_eq_true rfl) (go_start ?_); generalize hQ : Post Tryz.prog Tryz.f48 _ _ _ _ _ = Q; simp only [stIn, matL, matA, st00])
 by_cases hn : n < 0
 all_goals
  simp (disch := omega) only [go_sem, Nat.reduceEqDiff, Nat.reduceBEq, ↓reduceIte, reduceCtorEq, h2, h3]
  (repeat (with_reducible refine Or.inr ?_))
  rw [← hQ]
  exact post_cell1 (id := 0) (x := .agg [.bool (decide (n < 0)), natI n.natAbs, natI 1]) (.inl rfl) rfl o_iRat (by simp [upd_app] <;> omega) (by simp [upd_app]) (by simp [upd_app, natI, hn]) ld_iRat (by simp [AV.pure, AV.pureL])
attribute [go_sem] w_whole
theorem w_sign {m : Nat} {a : Rat} (h : m ≤ 274877906944) : CW Tryz.prog 66 [rI m a] (.int .i64 a.num.sign) := by
  refine cw (by kernel_rfl) (by simp [AV.pure, AV.pureL]) (by simp [AV.pure, AV.pureL]) ?_
  refine callOk_told (x := rI m a) told_rI (by simp) (by simp [AV.pure, AV.pureL]) fun ha => ?_
  have hl := len32 ha.1
  rw [rI_eq ha, ratI, qd]
  rcases Int.lt_trichotomy a.num 0 with hn | hn | hn
  · rw [Int.sign_eq_neg_one_of_neg hn]
    have hl0 := enc_len_pos B32_gt (show a.num.natAbs ≠ 0 by omega)
    simp only [hn, decide_true]
    (refine callOk_of_wpc (W := fun _ => false) false hm' Tryz.func66 rfl (by kernel_rfl) (Nat.le_of_ble_eq_true rfl) (go_start ?_); generalize hQ : Post Tryz.prog Tryz.f66 _ _ _ _ _ = Q; simp only [stIn, matL, matA, st00, natI])
    simp (disch := omega) only [go_sem, Nat.reduceEqDiff, Nat.reduceBEq, ↓reduceIte, reduceCtorEq]
    rw [← hQ]
    exact post_one (.inl rfl) rfl (by simp [upd_app] <;> omega) rfl
  · rw [hn]
    (refine callOk_of_wpc (W := fun _ => false) false hm' Tryz.func66 rfl (by kernel_rfl) (Nat.le_of_ble_eq_true rfl) (go_start ?_); generalize hQ : Post Tryz.prog Tryz.f66 _ _ _ _ _ = Q; simp only [stIn, matL, matA, st00, natI])
    simp (disch := omega) only [go_sem, Nat.reduceEqDiff, Nat.reduceBEq, ↓reduceIte, reduceCtorEq, Int.natAbs_zero, enc_zero, natA_nil, List.length_nil]
    rw [← hQ]
    exact post_one (.inl rfl) rfl (by simp [upd_app] <;> omega) rfl
  · rw [Int.sign_eq_one_of_pos hn]
    have hl0 := enc_len_pos B32_gt (show a.num.natAbs ≠ 0 by omega)
    simp only [show ¬ a.num < 0 by omega, decide_false]
    (refine callOk_of_wpc (W := fun _ => false) false hm' Tryz.func66 rfl (by kernel_rfl) (Nat.le_of_ble_eq_true rfl) (go_start ?_); generalize hQ : Post Tryz.prog Tryz.f66 _ _ _ _ _ = Q; simp only [stIn, matL, matA, st00, natI])
    simp (disch := omega) only [go_sem, Nat.reduceEqDiff, Nat.reduceBEq, ↓reduceIte, reduceCtorEq]
    rw [← hQ]
    exact post_one (.inl rfl) rfl (by simp [upd_app] <;> omega) rfl
attribute [go_sem] w_sign
end Go.Proofs.YtgfencjehdbjcaaGreatDoor
