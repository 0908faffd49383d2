/- Ground 9. -/
import Derived.Test.YtdljcbbodihagaaGreatDoorM8

set_option linter.unusedVariables false
set_option linter.unusedSimpArgs false
set_option maxRecDepth 100000
namespace Go.Proofs.YtdljcbbodihagaaGreatDoor
open Go

theorem c_Parse : callable Tryz.prog 37 = true := by kernel_rfl
def bodyQ (s : List UInt8) : List UInt8 := if headB 45 s = true then s.tail else s
theorem parseQ_alt (s : List UInt8) : headB 45 (firstQ s) = headB 45 s ∧ digsQ s = firstQ (bodyQ s) ∧ ((findB 47 s = none ∧ findB 47 (bodyQ s) = none) ∨ ∃ i j, findB 47 s = some i ∧ findB 47 (bodyQ s) = some j ∧ s.drop (i + 1) = (bodyQ s).drop (j + 1)) := by
  cases s with
  | nil => simp [firstQ, findB, headB, digsQ, bodyQ]
  | cons c cs =>
    by_cases hc : c = 45
    · subst hc
      have e1 : findB 47 (45 :: cs) = (findB 47 cs).map (· + 1) := by simp [findB]
      have e2 : bodyQ (45 :: cs) = cs := by simp [bodyQ, headB]
      rw [e2, e1]
      cases hf : findB 47 cs with
      | none => simp [firstQ, e1, hf, headB, digsQ]
      | some j => simp [firstQ, e1, hf, headB, digsQ]
    · have e2 : bodyQ (c :: cs) = c :: cs := by simp [bodyQ, headB, hc]
      have e3 : headB 45 (c :: cs) = false := by simp [headB, hc]
      rw [e2, e3]
      have e4 : headB 45 (firstQ (c :: cs)) = false := by
        simp only [firstQ]
        cases hf : findB 47 (c :: cs) with
        | none => exact e3
        | some i => cases i with
          | zero => simp [headB]
          | succ i => simp [headB, hc]
      refine ⟨e4, by simp [digsQ, e4], ?_⟩
      cases hf : findB 47 (c :: cs) with
      | none => exact .inl ⟨rfl, rfl⟩
      | some i => exact .inr ⟨i, i, rfl, rfl, rfl⟩
theorem splitM_find (s : List UInt8) : (findB 47 s = none ∧ splitM 47 s = [s]) ∨ ∃ j, findB 47 s = some j ∧ splitM 47 s = s.take j :: splitM 47 (s.drop (j + 1)) := by
 cases hf : findB 47 s with
 | none => exact .inl ⟨rfl, splitM_end (findB_none hf)⟩
 | some j =>
  obtain ⟨h1, h2, h3⟩ := findB_lt hf
  refine .inr ⟨j, rfl, ?_⟩
  have : s = s.take j ++ 47 :: s.drop (j + 1) := by rw [← drop_cons h2, List.take_append_drop]
  conv => lhs; rw [this, splitM_seg h3]
theorem tok_noslash {s : List UInt8} (h : tokD s = true) : findB 47 s = none := by
 cases hf : findB 47 s with
 | none => rfl
 | some j =>
  obtain ⟨h1, h2, h3⟩ := findB_lt hf
  have := (tok_len h).2.2 47 (List.mem_of_getElem? h2)
  simp [isDig] at this
def ratS (q : Qd) : AV := .agg [.bool q.1, natS q.2.1, natS q.2.2]
@[simp] theorem ratS_pure (q : Qd) : (ratS q).pure = true := by simp [ratS, AV.pure, AV.pureL]
def parseV (s : List UInt8) : AV := match parseQ s with | some q => .tup [ratS q, .bool true] | none => .tup [zrI, .bool false]
theorem el_sRatS {b : Bool} {t t' : Nat} {xs sp xs' sp' : List AV} {ex ex' : Bool} : AV.el Tryz.prog 57 (.agg [.bool b, .sl t xs sp ex, .sl t' xs' sp' ex']) = true := by simp [AV.el, s_sRat, AV.cells, AV.one]
theorem el_sRat0 {b : Bool} : AV.el Tryz.prog 57 (.agg [.bool b, .nil, .nil]) = true := by simp [AV.el, s_sRat, AV.cells, AV.one]
theorem el_int64S {t : Nat} {xs sp : List AV} {ex : Bool} : AV.el Tryz.prog 55 (.sl t xs sp ex) = true := by simp [AV.el, s_int64s, AV.cells, AV.one]
theorem ld_sRat {b c d : AV} : ldA Tryz.prog 57 (.agg [b, c, d]) 0 = some (.agg [b, c, d]) := by simp [ldA, partA, g_sRat, s_sRat, AV.cells]
attribute [go_sem] el_sRatS el_sRat0 el_int64S ld_sRat
theorem oneS : natS 1 = .sl 2 [.int .i64 1] [] false := by
 rw [natS, enc_pos B9_gt (by decide), show 1 / B9 = 0 from rfl, enc_zero]; rfl
theorem s_Parse (s : List UInt8) (hs : s.length ≤ 1000000) : CallOk Tryz.prog 37 [.str s] (parseV s) [] := by
  obtain ⟨hneg, hdg, hfind⟩ := parseQ_alt s
  have hpq : parseQ s = if tokD (firstQ (bodyQ s)) = true ∧ ¬ (headB 45 s = true ∧ dval (firstQ (bodyQ s)) = 0) then
    match findB 47 (bodyQ s) with
    | none => some (headB 45 s, dval (firstQ (bodyQ s)), 1)
    | some i => if tokD ((bodyQ s).drop (i + 1)) = true ∧ 1 < dval ((bodyQ s).drop (i + 1)) ∧ Nat.gcd (dval (firstQ (bodyQ s))) (dval ((bodyQ s).drop (i + 1))) = 1 then some (headB 45 s, dval (firstQ (bodyQ s)), dval ((bodyQ s).drop (i + 1))) else none
  else none := by
    rw [parseQ, hneg, hdg]
    rcases hfind with ⟨a, b⟩ | ⟨i, j, a, b, c⟩
    · simp only [a, b]
    · simp only [a, b, c]
  clear hneg hdg hfind
  obtain ⟨B, hB⟩ : ∃ B, bodyQ s = B := ⟨_, rfl⟩
  have hBl : B.length ≤ s.length := by rw [← hB]; unfold bodyQ; split <;> simp
  have hCut := s_Cut B 47 (by omega)
  obtain ⟨D, hD⟩ : ∃ D, firstQ B = D := ⟨_, rfl⟩
  have hDl : D.length ≤ B.length := by rw [← hD]; unfold firstQ; split <;> simp; omega
  have hsplit := splitM_find B
  obtain ⟨P1, hP1, hP⟩ : ∃ P1, splitM 47 B = D :: P1 ∧ ((findB 47 B = none ∧ P1 = []) ∨ ∃ j, findB 47 B = some j ∧ P1 = splitM 47 (B.drop (j + 1))) := by
    rcases hsplit with ⟨a, b⟩ | ⟨j, a, b⟩
    · exact ⟨[], by rw [b, ← hD, firstQ, a], .inl ⟨a, rfl⟩⟩
    · exact ⟨_, by rw [b, ← hD, firstQ, a], .inr ⟨j, a, rfl⟩⟩
  rw [hP1] at hCut
  rw [hB, hD] at hpq
  have hdig := s_Digits D (by omega)
  have e0 : [AV.bool false, AV.nil, AV.nil].length = 3 := rfl
  have hfail : ∀ (st : St), st.fr 2 = .ptr 0 1 0 0 → (st.h 0).lv = true → (st.h 0).xs = [zrI] → st.fr 3 = .bool false → parseQ s = none → Post Tryz.prog Tryz.f37 (matL false [AV.str s] st00).2.nx (AV.flatL [AV.str s]) false (parseV s) [] .ret st := by
    intro st k2 kl kx k3 hp
    rw [parseV, hp]
    exact post_cell (x := zrI) (.inl rfl) rfl o_sRat k2 kl kx ld_sRat k3 rfl rfl
  have hgood : ∀ (st : St) (b : Bool) (x y : AV) (q : Qd), st.fr 2 = .ptr 0 1 0 0 → (st.h 0).lv = true → (st.h 0).xs = [.agg [.bool b, x, y]] → st.fr 3 = .bool true → x.pure = true → y.pure = true → Post Tryz.prog Tryz.f37 (matL false [AV.str s] st00).2.nx (AV.flatL [AV.str s]) false (.tup [.agg [.bool b, x, y], .bool true]) [] .ret st := by
    intro st b x y q k2 kl kx k3 hx hy
    exact post_cell (x := .agg [.bool b, x, y]) (.inl rfl) rfl o_sRat k2 kl kx ld_sRat k3 (by simp [AV.pure, AV.pureL, hx, hy]) rfl
  have hp0 : (D :: P1)[Int.toNat 0]? = some D := rfl
  by_cases hsnil : s = []
  · have hBn : B = [] := by rw [← hB, hsnil]; rfl
    have hDn : D = [] := by rw [← hD, hBn]; rfl
    have hPn : P1 = [] := by rw [hBn] at hP; rcases hP with ⟨_, h⟩ | ⟨j, h, _⟩; exact h; simp [findB] at h
    have htd : tokD D = false := by rw [hDn]; rfl
    rw [htd] at hpq hdig
    simp only [Bool.false_eq_true, false_and, if_false] at hpq
    have hsl : s.length = 0 := by rw [hsnil]; rfl
    rw [hBn, ← hsnil] at hCut
    (refine callOk_of_wpc (W := fun _ => false) false hm' Tryz.func37 rfl (by kernel_rfl) (Nat.le_of_ble_eq_true rfl) (go_start ?_); generalize hQ : Post Tryz.prog Tryz.f37 _ _ _ _ _ = Q; simp only [stIn, matL, matA, st00])
    simp (disch := omega) only [go_sem, Nat.reduceEqDiff, Nat.reduceBEq, ↓reduceIte, reduceCtorEq, zrI, e0, hsl]
    refine x_callP (hCut) c_sCut01 (by simp [evA, upd_app, ofVal, ofCell]) (by simp [AV.pure, AV.pureL]) (by simp [AV.pure, AV.pureL]) ?_
    simp (disch := omega) only [go_sem, Nat.reduceEqDiff, Nat.reduceBEq, ↓reduceIte, reduceCtorEq, strA_length, strA_at, hp0, hPn, List.length_cons, List.length_nil]
    rw [hPn] at hp0
    refine x_callP (hdig) c_Digits (by simp [evA, upd_app, ofVal, ofCell]) (by simp [AV.pure, AV.pureL]) (by simp [AV.pure, AV.pureL]) ?_
    simp (disch := omega) only [go_sem, Nat.reduceEqDiff, Nat.reduceBEq, ↓reduceIte, reduceCtorEq, e0, List.set_cons_zero]
    rw [← hQ]
    exact hfail _ (by simp [upd_app] <;> omega) (by simp [upd_app]) (by simp [upd_app, zrI]) (by simp [upd_app] <;> omega) hpq
  have hl0 : 0 < s.length := List.length_pos_iff.2 hsnil
  obtain ⟨c0, hc0⟩ := get_some (xs := s) (i := 0) hl0
  have hc0' : s[Int.toNat 0]? = some c0 := hc0
  have hhead : s.head? = some c0 := by rw [List.head?_eq_getElem?]; exact hc0
  have hcb := c0.toNat_lt
  have htk : tokD D = true → (enc B9 (dval D)).length ≤ 200 := fun h => by
    obtain ⟨_, b, c⟩ := tok_len h
    exact Nat.le_trans (dval_enc (by decide) c) b
  have he1 : (enc B9 1).length ≤ 1 := enc_len_le B9_gt (by decide)
  by_cases h45 : c0.toNat = 45
  · have hc45 : c0 = 45 := UInt8.toNat.inj (by rw [h45]; rfl)
    have hng : headB 45 s = true := by simp [headB, hhead, hc45]
    have hsl : (s.take s.length).drop 1 = B := by rw [← hB, bodyQ, hng, List.take_length]; simp
    have hst : s.tail = B := by rw [← hsl, List.take_length]; simp
    rw [hng] at hpq
    simp only [true_and] at hpq
    cases hP1c : decide (2 ≤ P1.length) with
    | true =>
      have hP2 : 2 ≤ P1.length := by simpa using hP1c
      have hnone : parseQ s = none := by
        rw [hpq]
        rcases hP with ⟨_, h⟩ | ⟨j, h1, h2⟩
        · rw [h] at hP2; simp at hP2
        · have : tokD (B.drop (j + 1)) = false := by
            cases ht : tokD (B.drop (j + 1)) with
            | false => rfl
            | true =>
              rcases splitM_find (B.drop (j + 1)) with ⟨_, e⟩ | ⟨k, e, _⟩
              · rw [h2, e] at hP2; simp at hP2
              · rw [tok_noslash ht] at e; cases e
          simp only [h1, this, Bool.false_eq_true, false_and, if_false, ite_self]
      (refine callOk_of_wpc (W := fun _ => false) false hm' Tryz.func37 rfl (by kernel_rfl) (Nat.le_of_ble_eq_true rfl) (go_start ?_); generalize hQ : Post Tryz.prog Tryz.f37 _ _ _ _ _ = Q; simp only [stIn, matL, matA, st00])
      simp (disch := omega) only [go_sem, Nat.reduceEqDiff, Nat.reduceBEq, ↓reduceIte, reduceCtorEq, zrI, e0, hc0', h45, hsl]
      refine x_callP (hCut) c_sCut01 (by simp [evA, upd_app, ofVal, ofCell, hst]) (by simp [AV.pure, AV.pureL]) (by simp [AV.pure, AV.pureL]) ?_
      simp (disch := omega) only [go_sem, Nat.reduceEqDiff, Nat.reduceBEq, ↓reduceIte, reduceCtorEq, strA_length, List.length_cons, e0]
      rw [← hQ]
      exact hfail _ (by simp [upd_app] <;> omega) (by simp [upd_app]) (by simp [upd_app, zrI]) (by simp [upd_app] <;> omega) hnone
    | false =>
      have hP2 : P1.length ≤ 1 := by simp at hP1c; omega
      cases htd : tokD D with
      | false =>
        rw [htd] at hpq hdig
        simp only [Bool.false_eq_true, false_and, if_false] at hpq
        (refine callOk_of_wpc (W := fun _ => false) false hm' Tryz.func37 rfl (by kernel_rfl) (Nat.le_of_ble_eq_true rfl) (go_start ?_); generalize hQ : Post Tryz.prog Tryz.f37 _ _ _ _ _ = Q; simp only [stIn, matL, matA, st00])
        simp (disch := omega) only [go_sem, Nat.reduceEqDiff, Nat.reduceBEq, ↓reduceIte, reduceCtorEq, zrI, e0, hc0', h45, hsl]
        refine x_callP (hCut) c_sCut01 (by simp [evA, upd_app, ofVal, ofCell, hst]) (by simp [AV.pure, AV.pureL]) (by simp [AV.pure, AV.pureL]) ?_
        simp (disch := omega) only [go_sem, Nat.reduceEqDiff, Nat.reduceBEq, ↓reduceIte, reduceCtorEq, strA_length, strA_at, hp0, List.length_cons]
        refine x_callP (hdig) c_Digits (by simp [evA, upd_app, ofVal, ofCell]) (by simp [AV.pure, AV.pureL]) (by simp [AV.pure, AV.pureL]) ?_
        simp (disch := omega) only [go_sem, Nat.reduceEqDiff, Nat.reduceBEq, ↓reduceIte, reduceCtorEq, e0]
        rw [← hQ]
        exact hfail _ (by simp [upd_app] <;> omega) (by simp [upd_app]) (by simp [upd_app, zrI]) (by simp [upd_app] <;> omega) hpq
      | true =>
        have htl := htk htd
        rw [htd] at hpq hdig
        simp only [true_and, if_true] at hpq
        have hNR := s_NatRead D (tok_len htd).2.2 (by omega)
        obtain ⟨v, hv⟩ : ∃ v, dval D = v := ⟨_, rfl⟩
        rw [hv] at hNR hpq htl
        by_cases hv0 : v = 0
        · subst hv0
          simp only [not_true_eq_false, if_false] at hpq
          have hz : (enc B9 0).length = 0 := by rw [enc_zero]; rfl
          (refine callOk_of_wpc (W := fun _ => false) false hm' Tryz.func37 rfl (by kernel_rfl) (Nat.le_of_ble_eq_true rfl) (go_start ?_); generalize hQ : Post Tryz.prog Tryz.f37 _ _ _ _ _ = Q; simp only [stIn, matL, matA, st00])
          simp (disch := omega) only [go_sem, Nat.reduceEqDiff, Nat.reduceBEq, ↓reduceIte, reduceCtorEq, zrI, e0, hc0', h45, hsl]
          refine x_callP (hCut) c_sCut01 (by simp [evA, upd_app, ofVal, ofCell, hst]) (by simp [AV.pure, AV.pureL]) (by simp [AV.pure, AV.pureL]) ?_
          simp (disch := omega) only [go_sem, Nat.reduceEqDiff, Nat.reduceBEq, ↓reduceIte, reduceCtorEq, strA_length, strA_at, hp0, List.length_cons]
          refine x_callP (hdig) c_Digits (by simp [evA, upd_app, ofVal, ofCell]) (by simp [AV.pure, AV.pureL]) (by simp [AV.pure, AV.pureL]) ?_
          simp (disch := omega) only [go_sem, Nat.reduceEqDiff, Nat.reduceBEq, ↓reduceIte, reduceCtorEq, strA_length, strA_at, hp0, List.length_cons]
          refine x_callP (hNR) c_NatRead (by simp [evA, upd_app, ofVal, ofCell]) (by simp [AV.pure, AV.pureL]) (by simp [AV.pure, AV.pureL]) ?_
          simp (disch := omega) only [go_sem, Nat.reduceEqDiff, Nat.reduceBEq, ↓reduceIte, reduceCtorEq, natS, hz, e0]
          rw [← hQ]
          exact hfail _ (by simp [upd_app] <;> omega) (by simp [upd_app]) (by simp [upd_app, zrI]) (by simp [upd_app] <;> omega) hpq
        rw [if_pos hv0] at hpq
        have hvp := enc_len_pos B9_gt hv0
        rcases hP with ⟨hf, rfl⟩ | ⟨j, hf, hPj⟩
        · rw [hf] at hpq
          simp only at hpq
          have hres : parseV s = .tup [ratS (true, v, 1), .bool true] := by rw [parseV, hpq]
          rw [hres]
          refine CallOk.res (r := .tup [.agg [.bool true, natS v, .sl 2 [.int .i64 1] [] true], .bool true]) ?_ (sub_tup (SubL.cons (sub_agg (SubL.cons (Sub.refl _) (SubL.cons (Sub.refl _) (SubL.cons (by rw [oneS]; exact sub_sl) .nil)))) (SubL.refl _)))
          (refine callOk_of_wpc (W := fun _ => false) false hm' Tryz.func37 rfl (by kernel_rfl) (Nat.le_of_ble_eq_true rfl) (go_start ?_); generalize hQ : Post Tryz.prog Tryz.f37 _ _ _ _ _ = Q; simp only [stIn, matL, matA, st00])
          simp (disch := omega) only [go_sem, Nat.reduceEqDiff, Nat.reduceBEq, ↓reduceIte, reduceCtorEq, zrI, e0, hc0', h45, hsl]
          refine x_callP (hCut) c_sCut01 (by simp [evA, upd_app, ofVal, ofCell, hst]) (by simp [AV.pure, AV.pureL]) (by simp [AV.pure, AV.pureL]) ?_
          simp (disch := omega) only [go_sem, Nat.reduceEqDiff, Nat.reduceBEq, ↓reduceIte, reduceCtorEq, strA_length, strA_at, hp0, List.length_cons]
          refine x_callP (hdig) c_Digits (by simp [evA, upd_app, ofVal, ofCell]) (by simp [AV.pure, AV.pureL]) (by simp [AV.pure, AV.pureL]) ?_
          simp (disch := omega) only [go_sem, Nat.reduceEqDiff, Nat.reduceBEq, ↓reduceIte, reduceCtorEq, strA_length, strA_at, hp0, List.length_cons]
          refine x_callP (hNR) c_NatRead (by simp [evA, upd_app, ofVal, ofCell]) (by simp [AV.pure, AV.pureL]) (by simp [AV.pure, AV.pureL]) ?_
          simp (disch := omega) only [go_sem, Nat.reduceEqDiff, Nat.reduceBEq, ↓reduceIte, reduceCtorEq, natS, List.length_cons, List.length_nil, e0]
          rw [← hQ]
          exact hgood _ true (natS v) (.sl 2 [.int .i64 1] [] true) (true, v, 1) (by simp [upd_app] <;> omega) (by simp [upd_app]) (by simp [upd_app, natS]) (by simp [upd_app] <;> omega) (by simp) rfl
        · rw [hf] at hpq
          simp only at hpq
          obtain ⟨e, he⟩ : ∃ e, B.drop (j + 1) = e := ⟨_, rfl⟩
          rw [he] at hpq hPj
          have hel : e.length ≤ B.length := by rw [← he]; simp
          have hPe : P1 = [e] := by
            rcases splitM_find e with ⟨_, h⟩ | ⟨k, _, h⟩
            · rw [hPj, h]
            · exfalso
              rw [hPj, h] at hP2
              have := splitM_ne 47 (e.drop (k + 1))
              cases hs' : splitM 47 (e.drop (k + 1)) with
              | nil => exact this hs'
              | cons a b => rw [hs'] at hP2; simp at hP2
          subst hPe
          have hp1 : [D, e][Int.toNat 1]? = some e := rfl
          have hdig2 := s_Digits e (by omega)
          cases hte : tokD e with
          | false =>
            rw [hte] at hpq hdig2
            simp only [Bool.false_eq_true, false_and, if_false] at hpq
            (refine callOk_of_wpc (W := fun _ => false) false hm' Tryz.func37 rfl (by kernel_rfl) (Nat.le_of_ble_eq_true rfl) (go_start ?_); generalize hQ : Post Tryz.prog Tryz.f37 _ _ _ _ _ = Q; simp only [stIn, matL, matA, st00])
            simp (disch := omega) only [go_sem, Nat.reduceEqDiff, Nat.reduceBEq, ↓reduceIte, reduceCtorEq, zrI, e0, hc0', h45, hsl]
            refine x_callP (hCut) c_sCut01 (by simp [evA, upd_app, ofVal, ofCell, hst]) (by simp [AV.pure, AV.pureL]) (by simp [AV.pure, AV.pureL]) ?_
            simp (disch := omega) only [go_sem, Nat.reduceEqDiff, Nat.reduceBEq, ↓reduceIte, reduceCtorEq, strA_length, strA_at, hp0, List.length_cons]
            refine x_callP (hdig) c_Digits (by simp [evA, upd_app, ofVal, ofCell]) (by simp [AV.pure, AV.pureL]) (by simp [AV.pure, AV.pureL]) ?_
            simp (disch := omega) only [go_sem, Nat.reduceEqDiff, Nat.reduceBEq, ↓reduceIte, reduceCtorEq, strA_length, strA_at, hp0, List.length_cons]
            refine x_callP (hNR) c_NatRead (by simp [evA, upd_app, ofVal, ofCell]) (by simp [AV.pure, AV.pureL]) (by simp [AV.pure, AV.pureL]) ?_
            simp (disch := omega) only [go_sem, Nat.reduceEqDiff, Nat.reduceBEq, ↓reduceIte, reduceCtorEq, natS, List.length_cons, List.length_nil, strA_length, strA_at, hp1]
            refine x_callP (hdig2) c_Digits (by simp [evA, upd_app, ofVal, ofCell]) (by simp [AV.pure, AV.pureL]) (by simp [AV.pure, AV.pureL]) ?_
            simp (disch := omega) only [go_sem, Nat.reduceEqDiff, Nat.reduceBEq, ↓reduceIte, reduceCtorEq, e0]
            rw [← hQ]
            exact hfail _ (by simp [upd_app] <;> omega) (by simp [upd_app]) (by simp [upd_app, zrI]) (by simp [upd_app] <;> omega) hpq
          | true =>
            have htl2 : (enc B9 (dval e)).length ≤ 200 := by
              obtain ⟨_, b, c⟩ := tok_len hte
              exact Nat.le_trans (dval_enc (by decide) c) b
            rw [hte] at hpq hdig2
            simp only [true_and] at hpq
            have hNR2 := s_NatRead e (tok_len hte).2.2 (by omega)
            obtain ⟨u, hu⟩ : ∃ u, dval e = u := ⟨_, rfl⟩
            rw [hu] at hNR2 hpq htl2
            have hcmp := (s_Cmp hm' u 1 (by omega) (by omega)).args (SubL.cons (Sub.refl _) (SubL.cons (show Sub Tryz.prog (.sl 2 [.int .i64 1] [] true) (natS 1) by rw [oneS]; exact sub_sl) .nil))
            have hgcd := s_Gcd v u (by omega) (by omega)
            by_cases hu1 : 1 < u
            · rw [cmpI_gt hu1] at hcmp
              obtain ⟨g, hg⟩ : ∃ g, Nat.gcd v u = g := ⟨_, rfl⟩
              rw [hg] at hgcd
              simp only [hg, hu1, true_and] at hpq
              have hgu : g ≤ u := by rw [← hg]; exact Nat.gcd_le_right v (by omega)
              have hgl := enc_len_mono B9_gt hgu
              have hcg := (s_Cmp hm' g 1 (by omega) (by omega)).args (SubL.cons (Sub.refl _) (SubL.cons (show Sub Tryz.prog (.sl 2 [.int .i64 1] [] true) (natS 1) by rw [oneS]; exact sub_sl) .nil))
              by_cases hg1 : g = 1
              · subst hg1
                rw [cmpI_eq] at hcg
                simp only [if_true] at hpq
                have hres : parseV s = .tup [ratS (true, v, u), .bool true] := by rw [parseV, hpq]
                rw [hres]
                (refine callOk_of_wpc (W := fun _ => false) false hm' Tryz.func37 rfl (by kernel_rfl) (Nat.le_of_ble_eq_true rfl) (go_start ?_); generalize hQ : Post Tryz.prog Tryz.f37 _ _ _ _ _ = Q; simp only [stIn, matL, matA, st00])
                simp (disch := omega) only [go_sem, Nat.reduceEqDiff, Nat.reduceBEq, ↓reduceIte, reduceCtorEq, zrI, e0, hc0', h45, hsl]
                refine x_callP (hCut) c_sCut01 (by simp [evA, upd_app, ofVal, ofCell, hst]) (by simp [AV.pure, AV.pureL]) (by simp [AV.pure, AV.pureL]) ?_
                simp (disch := omega) only [go_sem, Nat.reduceEqDiff, Nat.reduceBEq, ↓reduceIte, reduceCtorEq, strA_length, strA_at, hp0, List.length_cons]
                refine x_callP (hdig) c_Digits (by simp [evA, upd_app, ofVal, ofCell]) (by simp [AV.pure, AV.pureL]) (by simp [AV.pure, AV.pureL]) ?_
                simp (disch := omega) only [go_sem, Nat.reduceEqDiff, Nat.reduceBEq, ↓reduceIte, reduceCtorEq, strA_length, strA_at, hp0, List.length_cons]
                refine x_callP (hNR) c_NatRead (by simp [evA, upd_app, ofVal, ofCell]) (by simp [AV.pure, AV.pureL]) (by simp [AV.pure, AV.pureL]) ?_
                simp (disch := omega) only [go_sem, Nat.reduceEqDiff, Nat.reduceBEq, ↓reduceIte, reduceCtorEq, natS, List.length_cons, List.length_nil, strA_length, strA_at, hp1]
                refine x_callP (hdig2) c_Digits (by simp [evA, upd_app, ofVal, ofCell]) (by simp [AV.pure, AV.pureL]) (by simp [AV.pure, AV.pureL]) ?_
                simp (disch := omega) only [go_sem, Nat.reduceEqDiff, Nat.reduceBEq, ↓reduceIte, reduceCtorEq, strA_length, strA_at, hp1]
                refine x_callP (hNR2) c_NatRead (by simp [evA, upd_app, ofVal, ofCell]) (by simp [AV.pure, AV.pureL]) (by simp [AV.pure, AV.pureL]) ?_
                simp (disch := omega) only [go_sem, Nat.reduceEqDiff, Nat.reduceBEq, ↓reduceIte, reduceCtorEq, natS]
                refine x_callP hcmp c_Cmp (by simp [evA, upd_app, natS]) (by simp [AV.pureL, AV.pure]) rfl ?_
                simp (disch := omega) only [go_sem, Nat.reduceEqDiff, Nat.reduceBEq, ↓reduceIte, reduceCtorEq, natS]
                refine x_callP hgcd c_Gcd (by simp [evA, upd_app, natS]) (by simp [AV.pureL]) (by simp) ?_
                simp (disch := omega) only [go_sem, Nat.reduceEqDiff, Nat.reduceBEq, ↓reduceIte, reduceCtorEq, natS]
                refine x_callP hcg c_Cmp (by simp [evA, upd_app, natS]) (by simp [AV.pureL, AV.pure]) rfl ?_
                simp (disch := omega) only [go_sem, Nat.reduceEqDiff, Nat.reduceBEq, ↓reduceIte, reduceCtorEq, natS, e0]
                rw [← hQ]
                exact hgood _ true (natS v) (natS u) (true, v, u) (by simp [upd_app] <;> omega) (by simp [upd_app]) (by simp [upd_app, natS]) (by simp [upd_app] <;> omega) (by simp) (by simp)
              · have hcn : cmpI g 1 ≠ 0 := by
                  rcases Nat.lt_trichotomy g 1 with h | h | h
                  · rw [cmpI_lt h]; decide
                  · exact absurd h hg1
                  · rw [cmpI_gt h]; decide
                rw [if_neg hg1] at hpq
                (refine callOk_of_wpc (W := fun _ => false) false hm' Tryz.func37 rfl (by kernel_rfl) (Nat.le_of_ble_eq_true rfl) (go_start ?_); generalize hQ : Post Tryz.prog Tryz.f37 _ _ _ _ _ = Q; simp only [stIn, matL, matA, st00])
                simp (disch := omega) only [go_sem, Nat.reduceEqDiff, Nat.reduceBEq, ↓reduceIte, reduceCtorEq, zrI, e0, hc0', h45, hsl]
                refine x_callP (hCut) c_sCut01 (by simp [evA, upd_app, ofVal, ofCell, hst]) (by simp [AV.pure, AV.pureL]) (by simp [AV.pure, AV.pureL]) ?_
                simp (disch := omega) only [go_sem, Nat.reduceEqDiff, Nat.reduceBEq, ↓reduceIte, reduceCtorEq, strA_length, strA_at, hp0, List.length_cons]
                refine x_callP (hdig) c_Digits (by simp [evA, upd_app, ofVal, ofCell]) (by simp [AV.pure, AV.pureL]) (by simp [AV.pure, AV.pureL]) ?_
                simp (disch := omega) only [go_sem, Nat.reduceEqDiff, Nat.reduceBEq, ↓reduceIte, reduceCtorEq, strA_length, strA_at, hp0, List.length_cons]
                refine x_callP (hNR) c_NatRead (by simp [evA, upd_app, ofVal, ofCell]) (by simp [AV.pure, AV.pureL]) (by simp [AV.pure, AV.pureL]) ?_
                simp (disch := omega) only [go_sem, Nat.reduceEqDiff, Nat.reduceBEq, ↓reduceIte, reduceCtorEq, natS, List.length_cons, List.length_nil, strA_length, strA_at, hp1]
                refine x_callP (hdig2) c_Digits (by simp [evA, upd_app, ofVal, ofCell]) (by simp [AV.pure, AV.pureL]) (by simp [AV.pure, AV.pureL]) ?_
                simp (disch := omega) only [go_sem, Nat.reduceEqDiff, Nat.reduceBEq, ↓reduceIte, reduceCtorEq, strA_length, strA_at, hp1]
                refine x_callP (hNR2) c_NatRead (by simp [evA, upd_app, ofVal, ofCell]) (by simp [AV.pure, AV.pureL]) (by simp [AV.pure, AV.pureL]) ?_
                simp (disch := omega) only [go_sem, Nat.reduceEqDiff, Nat.reduceBEq, ↓reduceIte, reduceCtorEq, natS]
                refine x_callP hcmp c_Cmp (by simp [evA, upd_app, natS]) (by simp [AV.pureL, AV.pure]) rfl ?_
                simp (disch := omega) only [go_sem, Nat.reduceEqDiff, Nat.reduceBEq, ↓reduceIte, reduceCtorEq, natS]
                refine x_callP hgcd c_Gcd (by simp [evA, upd_app, natS]) (by simp [AV.pureL]) (by simp) ?_
                simp (disch := omega) only [go_sem, Nat.reduceEqDiff, Nat.reduceBEq, ↓reduceIte, reduceCtorEq, natS]
                refine x_callP hcg c_Cmp (by simp [evA, upd_app, natS]) (by simp [AV.pureL, AV.pure]) rfl ?_
                simp (disch := omega) only [go_sem, Nat.reduceEqDiff, Nat.reduceBEq, ↓reduceIte, reduceCtorEq, e0]
                rw [← hQ]
                exact hfail _ (by simp [upd_app] <;> omega) (by simp [upd_app]) (by simp [upd_app, zrI]) (by simp [upd_app] <;> omega) hpq
            · have hc1 : cmpI u 1 ≤ 0 := by
                rcases Nat.lt_or_ge u 1 with h | h
                · rw [cmpI_lt h]; decide
                · rw [show u = 1 by omega, cmpI_eq]; decide
              rw [if_neg (fun h => hu1 h.1)] at hpq
              (refine callOk_of_wpc (W := fun _ => false) false hm' Tryz.func37 rfl (by kernel_rfl) (Nat.le_of_ble_eq_true rfl) (go_start ?_); generalize hQ : Post Tryz.prog Tryz.f37 _ _ _ _ _ = Q; simp only [stIn, matL, matA, st00])
              simp (disch := omega) only [go_sem, Nat.reduceEqDiff, Nat.reduceBEq, ↓reduceIte, reduceCtorEq, zrI, e0, hc0', h45, hsl]
              refine x_callP (hCut) c_sCut01 (by simp [evA, upd_app, ofVal, ofCell, hst]) (by simp [AV.pure, AV.pureL]) (by simp [AV.pure, AV.pureL]) ?_
              simp (disch := omega) only [go_sem, Nat.reduceEqDiff, Nat.reduceBEq, ↓reduceIte, reduceCtorEq, strA_length, strA_at, hp0, List.length_cons]
              refine x_callP (hdig) c_Digits (by simp [evA, upd_app, ofVal, ofCell]) (by simp [AV.pure, AV.pureL]) (by simp [AV.pure, AV.pureL]) ?_
              simp (disch := omega) only [go_sem, Nat.reduceEqDiff, Nat.reduceBEq, ↓reduceIte, reduceCtorEq, strA_length, strA_at, hp0, List.length_cons]
              refine x_callP (hNR) c_NatRead (by simp [evA, upd_app, ofVal, ofCell]) (by simp [AV.pure, AV.pureL]) (by simp [AV.pure, AV.pureL]) ?_
              simp (disch := omega) only [go_sem, Nat.reduceEqDiff, Nat.reduceBEq, ↓reduceIte, reduceCtorEq, natS, List.length_cons, List.length_nil, strA_length, strA_at, hp1]
              refine x_callP (hdig2) c_Digits (by simp [evA, upd_app, ofVal, ofCell]) (by simp [AV.pure, AV.pureL]) (by simp [AV.pure, AV.pureL]) ?_
              simp (disch := omega) only [go_sem, Nat.reduceEqDiff, Nat.reduceBEq, ↓reduceIte, reduceCtorEq, strA_length, strA_at, hp1]
              refine x_callP (hNR2) c_NatRead (by simp [evA, upd_app, ofVal, ofCell]) (by simp [AV.pure, AV.pureL]) (by simp [AV.pure, AV.pureL]) ?_
              simp (disch := omega) only [go_sem, Nat.reduceEqDiff, Nat.reduceBEq, ↓reduceIte, reduceCtorEq, natS]
              refine x_callP hcmp c_Cmp (by simp [evA, upd_app, natS]) (by simp [AV.pureL, AV.pure]) rfl ?_
              simp (disch := omega) only [go_sem, Nat.reduceEqDiff, Nat.reduceBEq, ↓reduceIte, reduceCtorEq, e0]
              rw [← hQ]
              exact hfail _ (by simp [upd_app] <;> omega) (by simp [upd_app]) (by simp [upd_app, zrI]) (by simp [upd_app] <;> omega) hpq
  · have hng : headB 45 s = false := by
      have : c0 ≠ 45 := fun e => h45 (by rw [e]; rfl)
      simp [headB, hhead, this]
    have hBs : B = s := by rw [← hB, bodyQ, hng]; rfl
    rw [hBs] at hCut
    rw [hng] at hpq
    simp only [Bool.false_eq_true, false_and, not_false_eq_true, and_true] at hpq
    cases hP1c : decide (2 ≤ P1.length) with
    | true =>
      have hP2 : 2 ≤ P1.length := by simpa using hP1c
      have hnone : parseQ s = none := by
        rw [hpq]
        rcases hP with ⟨_, h⟩ | ⟨j, h1, h2⟩
        · rw [h] at hP2; simp at hP2
        · have : tokD (B.drop (j + 1)) = false := by
            cases ht : tokD (B.drop (j + 1)) with
            | false => rfl
            | true =>
              rcases splitM_find (B.drop (j + 1)) with ⟨_, e⟩ | ⟨k, e, _⟩
              · rw [h2, e] at hP2; simp at hP2
              · rw [tok_noslash ht] at e; cases e
          simp only [h1, this, Bool.false_eq_true, false_and, if_false, ite_self]
      (refine callOk_of_wpc (W := fun _ => false) false hm' Tryz.func37 rfl (by kernel_rfl) (Nat.le_of_ble_eq_true rfl) (go_start ?_); generalize hQ : Post Tryz.prog Tryz.f37 _ _ _ _ _ = Q; simp only [stIn, matL, matA, st00])
      simp (disch := omega) only [go_sem, Nat.reduceEqDiff, Nat.reduceBEq, ↓reduceIte, reduceCtorEq, zrI, e0, hc0']
      refine x_callP (hCut) c_sCut01 (by simp [evA, upd_app, ofVal, ofCell]) (by simp [AV.pure, AV.pureL]) (by simp [AV.pure, AV.pureL]) ?_
      simp (disch := omega) only [go_sem, Nat.reduceEqDiff, Nat.reduceBEq, ↓reduceIte, reduceCtorEq, strA_length, List.length_cons, e0]
      rw [← hQ]
      exact hfail _ (by simp [upd_app] <;> omega) (by simp [upd_app]) (by simp [upd_app, zrI]) (by simp [upd_app] <;> omega) hnone
    | false =>
      have hP2 : P1.length ≤ 1 := by simp at hP1c; omega
      cases htd : tokD D with
      | false =>
        rw [htd] at hpq hdig
        simp only [Bool.false_eq_true, false_and, if_false] at hpq
        (refine callOk_of_wpc (W := fun _ => false) false hm' Tryz.func37 rfl (by kernel_rfl) (Nat.le_of_ble_eq_true rfl) (go_start ?_); generalize hQ : Post Tryz.prog Tryz.f37 _ _ _ _ _ = Q; simp only [stIn, matL, matA, st00])
        simp (disch := omega) only [go_sem, Nat.reduceEqDiff, Nat.reduceBEq, ↓reduceIte, reduceCtorEq, zrI, e0, hc0']
        refine x_callP (hCut) c_sCut01 (by simp [evA, upd_app, ofVal, ofCell]) (by simp [AV.pure, AV.pureL]) (by simp [AV.pure, AV.pureL]) ?_
        simp (disch := omega) only [go_sem, Nat.reduceEqDiff, Nat.reduceBEq, ↓reduceIte, reduceCtorEq, strA_length, strA_at, hp0, List.length_cons]
        refine x_callP (hdig) c_Digits (by simp [evA, upd_app, ofVal, ofCell]) (by simp [AV.pure, AV.pureL]) (by simp [AV.pure, AV.pureL]) ?_
        simp (disch := omega) only [go_sem, Nat.reduceEqDiff, Nat.reduceBEq, ↓reduceIte, reduceCtorEq, e0]
        rw [← hQ]
        exact hfail _ (by simp [upd_app] <;> omega) (by simp [upd_app]) (by simp [upd_app, zrI]) (by simp [upd_app] <;> omega) hpq
      | true =>
        have htl := htk htd
        rw [htd] at hpq hdig
        simp only [true_and, if_true] at hpq
        have hNR := s_NatRead D (tok_len htd).2.2 (by omega)
        obtain ⟨v, hv⟩ : ∃ v, dval D = v := ⟨_, rfl⟩
        rw [hv] at hNR hpq htl
        rcases hP with ⟨hf, rfl⟩ | ⟨j, hf, hPj⟩
        · rw [hf] at hpq
          simp only at hpq
          have hres : parseV s = .tup [ratS (false, v, 1), .bool true] := by rw [parseV, hpq]
          rw [hres]
          refine CallOk.res (r := .tup [.agg [.bool false, natS v, .sl 2 [.int .i64 1] [] true], .bool true]) ?_ (sub_tup (SubL.cons (sub_agg (SubL.cons (Sub.refl _) (SubL.cons (Sub.refl _) (SubL.cons (by rw [oneS]; exact sub_sl) .nil)))) (SubL.refl _)))
          (refine callOk_of_wpc (W := fun _ => false) false hm' Tryz.func37 rfl (by kernel_rfl) (Nat.le_of_ble_eq_true rfl) (go_start ?_); generalize hQ : Post Tryz.prog Tryz.f37 _ _ _ _ _ = Q; simp only [stIn, matL, matA, st00])
          simp (disch := omega) only [go_sem, Nat.reduceEqDiff, Nat.reduceBEq, ↓reduceIte, reduceCtorEq, zrI, e0, hc0']
          refine x_callP (hCut) c_sCut01 (by simp [evA, upd_app, ofVal, ofCell]) (by simp [AV.pure, AV.pureL]) (by simp [AV.pure, AV.pureL]) ?_
          simp (disch := omega) only [go_sem, Nat.reduceEqDiff, Nat.reduceBEq, ↓reduceIte, reduceCtorEq, strA_length, strA_at, hp0, List.length_cons]
          refine x_callP (hdig) c_Digits (by simp [evA, upd_app, ofVal, ofCell]) (by simp [AV.pure, AV.pureL]) (by simp [AV.pure, AV.pureL]) ?_
          simp (disch := omega) only [go_sem, Nat.reduceEqDiff, Nat.reduceBEq, ↓reduceIte, reduceCtorEq, strA_length, strA_at, hp0, List.length_cons]
          refine x_callP (hNR) c_NatRead (by simp [evA, upd_app, ofVal, ofCell]) (by simp [AV.pure, AV.pureL]) (by simp [AV.pure, AV.pureL]) ?_
          simp (disch := omega) only [go_sem, Nat.reduceEqDiff, Nat.reduceBEq, ↓reduceIte, reduceCtorEq, natS, List.length_cons, List.length_nil, e0]
          rw [← hQ]
          exact hgood _ false (natS v) (.sl 2 [.int .i64 1] [] true) (false, v, 1) (by simp [upd_app] <;> omega) (by simp [upd_app]) (by simp [upd_app, natS]) (by simp [upd_app] <;> omega) (by simp) rfl
        · rw [hf] at hpq
          simp only at hpq
          obtain ⟨e, he⟩ : ∃ e, B.drop (j + 1) = e := ⟨_, rfl⟩
          rw [he] at hpq hPj
          have hel : e.length ≤ B.length := by rw [← he]; simp
          have hPe : P1 = [e] := by
            rcases splitM_find e with ⟨_, h⟩ | ⟨k, _, h⟩
            · rw [hPj, h]
            · exfalso
              rw [hPj, h] at hP2
              have := splitM_ne 47 (e.drop (k + 1))
              cases hs' : splitM 47 (e.drop (k + 1)) with
              | nil => exact this hs'
              | cons a b => rw [hs'] at hP2; simp at hP2
          subst hPe
          have hp1 : [D, e][Int.toNat 1]? = some e := rfl
          have hdig2 := s_Digits e (by omega)
          cases hte : tokD e with
          | false =>
            rw [hte] at hpq hdig2
            simp only [Bool.false_eq_true, false_and, if_false] at hpq
            (refine callOk_of_wpc (W := fun _ => false) false hm' Tryz.func37 rfl (by kernel_rfl) (Nat.le_of_ble_eq_true rfl) (go_start ?_); generalize hQ : Post Tryz.prog Tryz.f37 _ _ _ _ _ = Q; simp only [stIn, matL, matA, st00])
            simp (disch := omega) only [go_sem, Nat.reduceEqDiff, Nat.reduceBEq, ↓reduceIte, reduceCtorEq, zrI, e0, hc0']
            refine x_callP (hCut) c_sCut01 (by simp [evA, upd_app, ofVal, ofCell]) (by simp [AV.pure, AV.pureL]) (by simp [AV.pure, AV.pureL]) ?_
            simp (disch := omega) only [go_sem, Nat.reduceEqDiff, Nat.reduceBEq, ↓reduceIte, reduceCtorEq, strA_length, strA_at, hp0, List.length_cons]
            refine x_callP (hdig) c_Digits (by simp [evA, upd_app, ofVal, ofCell]) (by simp [AV.pure, AV.pureL]) (by simp [AV.pure, AV.pureL]) ?_
            simp (disch := omega) only [go_sem, Nat.reduceEqDiff, Nat.reduceBEq, ↓reduceIte, reduceCtorEq, strA_length, strA_at, hp0, List.length_cons]
            refine x_callP (hNR) c_NatRead (by simp [evA, upd_app, ofVal, ofCell]) (by simp [AV.pure, AV.pureL]) (by simp [AV.pure, AV.pureL]) ?_
            simp (disch := omega) only [go_sem, Nat.reduceEqDiff, Nat.reduceBEq, ↓reduceIte, reduceCtorEq, natS, List.length_cons, List.length_nil, strA_length, strA_at, hp1]
            refine x_callP (hdig2) c_Digits (by simp [evA, upd_app, ofVal, ofCell]) (by simp [AV.pure, AV.pureL]) (by simp [AV.pure, AV.pureL]) ?_
            simp (disch := omega) only [go_sem, Nat.reduceEqDiff, Nat.reduceBEq, ↓reduceIte, reduceCtorEq, e0]
            rw [← hQ]
            exact hfail _ (by simp [upd_app] <;> omega) (by simp [upd_app]) (by simp [upd_app, zrI]) (by simp [upd_app] <;> omega) hpq
          | true =>
            have htl2 : (enc B9 (dval e)).length ≤ 200 := by
              obtain ⟨_, b, c⟩ := tok_len hte
              exact Nat.le_trans (dval_enc (by decide) c) b
            rw [hte] at hpq hdig2
            simp only [true_and] at hpq
            have hNR2 := s_NatRead e (tok_len hte).2.2 (by omega)
            obtain ⟨u, hu⟩ : ∃ u, dval e = u := ⟨_, rfl⟩
            rw [hu] at hNR2 hpq htl2
            have hcmp := (s_Cmp hm' u 1 (by omega) (by omega)).args (SubL.cons (Sub.refl _) (SubL.cons (show Sub Tryz.prog (.sl 2 [.int .i64 1] [] true) (natS 1) by rw [oneS]; exact sub_sl) .nil))
            have hgcd := s_Gcd v u (by omega) (by omega)
            by_cases hu1 : 1 < u
            · rw [cmpI_gt hu1] at hcmp
              obtain ⟨g, hg⟩ : ∃ g, Nat.gcd v u = g := ⟨_, rfl⟩
              rw [hg] at hgcd
              simp only [hg, hu1, true_and] at hpq
              have hgu : g ≤ u := by rw [← hg]; exact Nat.gcd_le_right v (by omega)
              have hgl := enc_len_mono B9_gt hgu
              have hcg := (s_Cmp hm' g 1 (by omega) (by omega)).args (SubL.cons (Sub.refl _) (SubL.cons (show Sub Tryz.prog (.sl 2 [.int .i64 1] [] true) (natS 1) by rw [oneS]; exact sub_sl) .nil))
              by_cases hg1 : g = 1
              · subst hg1
                rw [cmpI_eq] at hcg
                simp only [if_true] at hpq
                have hres : parseV s = .tup [ratS (false, v, u), .bool true] := by rw [parseV, hpq]
                rw [hres]
                (refine callOk_of_wpc (W := fun _ => false) false hm' Tryz.func37 rfl (by kernel_rfl) (Nat.le_of_ble_eq_true rfl) (go_start ?_); generalize hQ : Post Tryz.prog Tryz.f37 _ _ _ _ _ = Q; simp only [stIn, matL, matA, st00])
                simp (disch := omega) only [go_sem, Nat.reduceEqDiff, Nat.reduceBEq, ↓reduceIte, reduceCtorEq, zrI, e0, hc0']
                refine x_callP (hCut) c_sCut01 (by simp [evA, upd_app, ofVal, ofCell]) (by simp [AV.pure, AV.pureL]) (by simp [AV.pure, AV.pureL]) ?_
                simp (disch := omega) only [go_sem, Nat.reduceEqDiff, Nat.reduceBEq, ↓reduceIte, reduceCtorEq, strA_length, strA_at, hp0, List.length_cons]
                refine x_callP (hdig) c_Digits (by simp [evA, upd_app, ofVal, ofCell]) (by simp [AV.pure, AV.pureL]) (by simp [AV.pure, AV.pureL]) ?_
                simp (disch := omega) only [go_sem, Nat.reduceEqDiff, Nat.reduceBEq, ↓reduceIte, reduceCtorEq, strA_length, strA_at, hp0, List.length_cons]
                refine x_callP (hNR) c_NatRead (by simp [evA, upd_app, ofVal, ofCell]) (by simp [AV.pure, AV.pureL]) (by simp [AV.pure, AV.pureL]) ?_
                simp (disch := omega) only [go_sem, Nat.reduceEqDiff, Nat.reduceBEq, ↓reduceIte, reduceCtorEq, natS, List.length_cons, List.length_nil, strA_length, strA_at, hp1]
                refine x_callP (hdig2) c_Digits (by simp [evA, upd_app, ofVal, ofCell]) (by simp [AV.pure, AV.pureL]) (by simp [AV.pure, AV.pureL]) ?_
                simp (disch := omega) only [go_sem, Nat.reduceEqDiff, Nat.reduceBEq, ↓reduceIte, reduceCtorEq, strA_length, strA_at, hp1]
                refine x_callP (hNR2) c_NatRead (by simp [evA, upd_app, ofVal, ofCell]) (by simp [AV.pure, AV.pureL]) (by simp [AV.pure, AV.pureL]) ?_
                simp (disch := omega) only [go_sem, Nat.reduceEqDiff, Nat.reduceBEq, ↓reduceIte, reduceCtorEq, natS]
                refine x_callP hcmp c_Cmp (by simp [evA, upd_app, natS]) (by simp [AV.pureL, AV.pure]) rfl ?_
                simp (disch := omega) only [go_sem, Nat.reduceEqDiff, Nat.reduceBEq, ↓reduceIte, reduceCtorEq, natS]
                refine x_callP hgcd c_Gcd (by simp [evA, upd_app, natS]) (by simp [AV.pureL]) (by simp) ?_
                simp (disch := omega) only [go_sem, Nat.reduceEqDiff, Nat.reduceBEq, ↓reduceIte, reduceCtorEq, natS]
                refine x_callP hcg c_Cmp (by simp [evA, upd_app, natS]) (by simp [AV.pureL, AV.pure]) rfl ?_
                simp (disch := omega) only [go_sem, Nat.reduceEqDiff, Nat.reduceBEq, ↓reduceIte, reduceCtorEq, natS, e0]
                rw [← hQ]
                exact hgood _ false (natS v) (natS u) (false, v, u) (by simp [upd_app] <;> omega) (by simp [upd_app]) (by simp [upd_app, natS]) (by simp [upd_app] <;> omega) (by simp) (by simp)
              · have hcn : cmpI g 1 ≠ 0 := by
                  rcases Nat.lt_trichotomy g 1 with h | h | h
                  · rw [cmpI_lt h]; decide
                  · exact absurd h hg1
                  · rw [cmpI_gt h]; decide
                rw [if_neg hg1] at hpq
                (refine callOk_of_wpc (W := fun _ => false) false hm' Tryz.func37 rfl (by kernel_rfl) (Nat.le_of_ble_eq_true rfl) (go_start ?_); generalize hQ : Post Tryz.prog Tryz.f37 _ _ _ _ _ = Q; simp only [stIn, matL, matA, st00])
                simp (disch := omega) only [go_sem, Nat.reduceEqDiff, Nat.reduceBEq, ↓reduceIte, reduceCtorEq, zrI, e0, hc0']
                refine x_callP (hCut) c_sCut01 (by simp [evA, upd_app, ofVal, ofCell]) (by simp [AV.pure, AV.pureL]) (by simp [AV.pure, AV.pureL]) ?_
                simp (disch := omega) only [go_sem, Nat.reduceEqDiff, Nat.reduceBEq, ↓reduceIte, reduceCtorEq, strA_length, strA_at, hp0, List.length_cons]
                refine x_callP (hdig) c_Digits (by simp [evA, upd_app, ofVal, ofCell]) (by simp [AV.pure, AV.pureL]) (by simp [AV.pure, AV.pureL]) ?_
                simp (disch := omega) only [go_sem, Nat.reduceEqDiff, Nat.reduceBEq, ↓reduceIte, reduceCtorEq, strA_length, strA_at, hp0, List.length_cons]
                refine x_callP (hNR) c_NatRead (by simp [evA, upd_app, ofVal, ofCell]) (by simp [AV.pure, AV.pureL]) (by simp [AV.pure, AV.pureL]) ?_
                simp (disch := omega) only [go_sem, Nat.reduceEqDiff, Nat.reduceBEq, ↓reduceIte, reduceCtorEq, natS, List.length_cons, List.length_nil, strA_length, strA_at, hp1]
                refine x_callP (hdig2) c_Digits (by simp [evA, upd_app, ofVal, ofCell]) (by simp [AV.pure, AV.pureL]) (by simp [AV.pure, AV.pureL]) ?_
                simp (disch := omega) only [go_sem, Nat.reduceEqDiff, Nat.reduceBEq, ↓reduceIte, reduceCtorEq, strA_length, strA_at, hp1]
                refine x_callP (hNR2) c_NatRead (by simp [evA, upd_app, ofVal, ofCell]) (by simp [AV.pure, AV.pureL]) (by simp [AV.pure, AV.pureL]) ?_
                simp (disch := omega) only [go_sem, Nat.reduceEqDiff, Nat.reduceBEq, ↓reduceIte, reduceCtorEq, natS]
                refine x_callP hcmp c_Cmp (by simp [evA, upd_app, natS]) (by simp [AV.pureL, AV.pure]) rfl ?_
                simp (disch := omega) only [go_sem, Nat.reduceEqDiff, Nat.reduceBEq, ↓reduceIte, reduceCtorEq, natS]
                refine x_callP hgcd c_Gcd (by simp [evA, upd_app, natS]) (by simp [AV.pureL]) (by simp) ?_
                simp (disch := omega) only [go_sem, Nat.reduceEqDiff, Nat.reduceBEq, ↓reduceIte, reduceCtorEq, natS]
                refine x_callP hcg c_Cmp (by simp [evA, upd_app, natS]) (by simp [AV.pureL, AV.pure]) rfl ?_
                simp (disch := omega) only [go_sem, Nat.reduceEqDiff, Nat.reduceBEq, ↓reduceIte, reduceCtorEq, e0]
                rw [← hQ]
                exact hfail _ (by simp [upd_app] <;> omega) (by simp [upd_app]) (by simp [upd_app, zrI]) (by simp [upd_app] <;> omega) hpq
            · have hc1 : cmpI u 1 ≤ 0 := by
                rcases Nat.lt_or_ge u 1 with h | h
                · rw [cmpI_lt h]; decide
                · rw [show u = 1 by omega, cmpI_eq]; decide
              rw [if_neg (fun h => hu1 h.1)] at hpq
              (refine callOk_of_wpc (W := fun _ => false) false hm' Tryz.func37 rfl (by kernel_rfl) (Nat.le_of_ble_eq_true rfl) (go_start ?_); generalize hQ : Post Tryz.prog Tryz.f37 _ _ _ _ _ = Q; simp only [stIn, matL, matA, st00])
              simp (disch := omega) only [go_sem, Nat.reduceEqDiff, Nat.reduceBEq, ↓reduceIte, reduceCtorEq, zrI, e0, hc0']
              refine x_callP (hCut) c_sCut01 (by simp [evA, upd_app, ofVal, ofCell]) (by simp [AV.pure, AV.pureL]) (by simp [AV.pure, AV.pureL]) ?_
              simp (disch := omega) only [go_sem, Nat.reduceEqDiff, Nat.reduceBEq, ↓reduceIte, reduceCtorEq, strA_length, strA_at, hp0, List.length_cons]
              refine x_callP (hdig) c_Digits (by simp [evA, upd_app, ofVal, ofCell]) (by simp [AV.pure, AV.pureL]) (by simp [AV.pure, AV.pureL]) ?_
              simp (disch := omega) only [go_sem, Nat.reduceEqDiff, Nat.reduceBEq, ↓reduceIte, reduceCtorEq, strA_length, strA_at, hp0, List.length_cons]
              refine x_callP (hNR) c_NatRead (by simp [evA, upd_app, ofVal, ofCell]) (by simp [AV.pure, AV.pureL]) (by simp [AV.pure, AV.pureL]) ?_
              simp (disch := omega) only [go_sem, Nat.reduceEqDiff, Nat.reduceBEq, ↓reduceIte, reduceCtorEq, natS, List.length_cons, List.length_nil, strA_length, strA_at, hp1]
              refine x_callP (hdig2) c_Digits (by simp [evA, upd_app, ofVal, ofCell]) (by simp [AV.pure, AV.pureL]) (by simp [AV.pure, AV.pureL]) ?_
              simp (disch := omega) only [go_sem, Nat.reduceEqDiff, Nat.reduceBEq, ↓reduceIte, reduceCtorEq, strA_length, strA_at, hp1]
              refine x_callP (hNR2) c_NatRead (by simp [evA, upd_app, ofVal, ofCell]) (by simp [AV.pure, AV.pureL]) (by simp [AV.pure, AV.pureL]) ?_
              simp (disch := omega) only [go_sem, Nat.reduceEqDiff, Nat.reduceBEq, ↓reduceIte, reduceCtorEq, natS]
              refine x_callP hcmp c_Cmp (by simp [evA, upd_app, natS]) (by simp [AV.pureL, AV.pure]) rfl ?_
              simp (disch := omega) only [go_sem, Nat.reduceEqDiff, Nat.reduceBEq, ↓reduceIte, reduceCtorEq, e0]
              rw [← hQ]
              exact hfail _ (by simp [upd_app] <;> omega) (by simp [upd_app]) (by simp [upd_app, zrI]) (by simp [upd_app] <;> omega) hpq
theorem c_List : callable Tryz.prog 17 = true := by kernel_rfl
def ratsS (qs : List Qd) : AV := .sl 57 (qs.map ratS) [] false
def listS (o : Option (List Qd)) : AV := match o with | some qs => .tup [ratsS qs, .bool true] | none => .tup [.nil, .bool false]
theorem ratsS_pure (qs : List Qd) : AV.pureL (qs.map ratS) = true := by induction qs <;> simp_all [AV.pureL]
theorem s_List (xs : List (List UInt8)) (hl : xs.length < 9223372036854775808) (hs : ∀ x ∈ xs, x.length ≤ 1000000) : CallOk Tryz.prog 17 [.sl 9 (strA xs) [] false] (listS (listQ xs)) [] := by
  by_cases h300 : 300 < xs.length
  · rw [listQ, if_pos h300]
    (refine callOk_of_wpc (W := fun _ => false) false hm' Tryz.func17 rfl (by kernel_rfl) (Nat.le_of_ble_eq_true rfl) (go_start ?_); generalize hQ : Post Tryz.prog Tryz.f17 _ _ _ _ _ = Q; simp only [stIn, matL, matA, st00])
    simp (disch := omega) only [go_sem, Nat.reduceEqDiff, Nat.reduceBEq, ↓reduceIte, reduceCtorEq, strA_length]
    rw [← hQ]
    exact post_two (.inl rfl) rfl (by simp [upd_app] <;> omega) (by simp [upd_app] <;> omega) rfl rfl
  rw [listQ, if_neg h300]
  obtain ⟨n, hn⟩ : ∃ n, xs.length = n := ⟨_, rfl⟩
  rw [hn] at h300 hl
  (refine callOk_of_wpc (W := fun _ => false) false hm' Tryz.func17 rfl (by kernel_rfl) (Nat.le_of_ble_eq_true rfl) (go_start ?_); generalize hQ : Post Tryz.prog Tryz.f17 _ _ _ _ _ = Q; simp only [stIn, matL, matA, st00])
  simp (disch := omega) only [go_sem, Nat.reduceEqDiff, Nat.reduceBEq, ↓reduceIte, reduceCtorEq, strA_length, hn]
  obtain ⟨R, hR⟩ : ∃ R : Nat × List Qd → St → Prop, R = fun p st => st.fr 4 = .ref 0 p.2.length 0 p.2.length ∧ st.fr 0 = .sl 9 (strA xs) [] false ∧ st.fr 13 = .int .i64 n ∧ st.fr 14 = .int .i64 p.1 ∧ (∃ ex, st.h 0 = ⟨57, p.2.map ratS, ex, true, true⟩) ∧ 0 < st.nx ∧ p.1 ≤ n ∧ (xs.take p.1).mapM parseQ = some p.2 := ⟨_, rfl⟩
  refine k_loop R (fun p => n - p.1) (0, []) (by rw [hR]; exact ⟨(by simp [upd_app] <;> omega), (by simp [upd_app] <;> omega), (by simp [upd_app] <;> omega), (by simp [upd_app] <;> omega), ⟨true, by simp [upd_app]⟩, by simp, by simp, by simp⟩) ?_
  rintro ⟨i, qs⟩ ⟨fr, h, nx⟩ hst J hJ
  rw [hR] at hst
  obtain ⟨g4, g0, g13, g14, ⟨ex, hm⟩, hnx, hi, hq⟩ := hst
  simp only at g4 g0 g13 g14 hm hnx hi hq
  have hql : qs.length = i := by have := mapM_len hq; simp at this; omega
  have n1 : (0 = nx) = False := by simp; omega
  have n2 : (nx = 0) = False := by simp; omega
  have hml : (qs.map ratS).length = i := by simp [hql]
  by_cases hin : i < n
  · obtain ⟨x, hx⟩ := get_some (xs := xs) (i := i) (by omega)
    have hrd := s_Parse x (hs x (List.mem_of_getElem? hx))
    cases hp : parseQ x with
    | none =>
      rw [mapM_fail hx hp] at hQ
      simp only [parseV, hp] at hrd
      simp (disch := omega) only [go_sem, Nat.reduceEqDiff, Nat.reduceBEq, ↓reduceIte, reduceCtorEq, g4, g0, g13, g14, strA_at, hx, strA_length, hn]
      refine x_callP (hrd) c_Parse (by simp [evA, upd_app, ofVal, ofCell, zrI]) (by simp [AV.pure, AV.pureL]) (by simp [AV.pure, AV.pureL]) ?_
      simp (disch := omega) only [go_sem, Nat.reduceEqDiff, Nat.reduceBEq, ↓reduceIte, reduceCtorEq, g4, g0, g13, g14, zrI, el_sRat0, List.length_cons, List.length_nil, Nat.reduceAdd]
      rw [← hQ]
      exact post_two (.inl rfl) rfl (by simp [upd_app] <;> omega) (by simp [upd_app] <;> omega) rfl rfl
    | some q =>
      simp only [parseV, hp] at hrd
      have hmt := mapM_take hq hx hp
      have hfin : ∀ st : St, st.fr 4 = .ref 0 (i + 1) 0 (i + 1) → st.fr 0 = .sl 9 (strA xs) [] false → st.fr 13 = .int .i64 n → st.fr 14 = .int .i64 ((i + 1 : Nat) : Int) → (∃ ex, st.h 0 = ⟨57, qs.map ratS ++ [ratS q], ex, true, true⟩) → 0 < st.nx → J st := by
        intro st r4 r0 r13 r14 rh rn
        refine hJ (i + 1, qs ++ [q]) st ?_ (by simp only; omega)
        rw [hR]
        refine ⟨by simpa [hql] using r4, r0, r13, r14, by simpa using rh, rn, hin, hmt⟩
      clear hJ hmt hR hQ hq hs
      rw [hql] at g4
      simp (disch := omega) only [go_sem, Nat.reduceEqDiff, Nat.reduceBEq, ↓reduceIte, reduceCtorEq, g4, g0, g13, g14, strA_at, hx, strA_length, hn]
      refine x_callP (hrd) c_Parse (by simp [evA, upd_app, ofVal, ofCell, zrI]) (by simp [AV.pure, AV.pureL]) (by simp [AV.pure, AV.pureL]) ?_
      simp (disch := omega) only [go_sem, Nat.reduceEqDiff, Nat.reduceBEq, ↓reduceIte, reduceCtorEq, g4, g0, g13, g14, ratS, natS, List.length_cons, List.length_nil, Nat.reduceAdd, List.take_succ_cons, List.take_zero, n1, n2, hm, hml, reach]
      exact hfin _ (by simp [upd_app] <;> omega) (by simp [upd_app, g0] <;> omega) (by simp [upd_app, g13] <;> omega) (by simp [upd_app] <;> omega) ⟨false, by simp [upd_app, n1, n2, hm, ratS, natS]⟩ (by simp)
  · obtain rfl : i = n := by omega
    rw [List.take_of_length_le (by omega)] at hq
    rw [hq] at hQ
    simp (disch := omega) only [go_sem, Nat.reduceEqDiff, Nat.reduceBEq, ↓reduceIte, reduceCtorEq, g4, g0, g13, g14]
    rw [← hQ]
    have hfz : snapA (⟨_, h, nx⟩ : St) 7 (.ref 0 qs.length 0 qs.length) = some (.sl 57 (qs.map ratS) [] false, [0]) := snap_frozen (st := ⟨fr, h, nx⟩) (d := 6) (by simp [hm]) (by simp [hm]) (by simp [hm]) (by simp) (by simp [hm]; exact List.take_of_length_le (by simp)) (ratsS_pure qs)
    exact post_tup (.inl rfl) rfl (by simp [upd_app] <;> omega) (by simp [upd_app] <;> omega) hfz (snapA_pure rfl) (fun a _ => Nat.zero_le _) (.inl rfl)
section
variable {P : Program} {W : FuncId → Bool} {ops : Array Oper} {os : List Oper} {fr : Nat → AV} {h : Nat → Blk} {nx : Nat} {K : St → Prop} {d t : Nat} {p : String} {af : Array Edge}
end
theorem cl_room : callable Tryz.prog 24 = true := by kernel_rfl
theorem cl_sz : callable Tryz.prog 9 = true := by kernel_rfl
theorem cl_to : callable Tryz.prog 12 = true := by kernel_rfl
theorem cl_eq : callable Tryz.prog 35 = true := by kernel_rfl
theorem cl_intact : callable Tryz.prog 15 = true := by kernel_rfl
def roomB (n : Nat) : Nat := if n % 6 = 5 then 0 else if n % 3 = 0 then 1 else n
theorem room_le (n : Nat) : roomB n ≤ n + 1 := by unfold roomB; split; omega; split <;> omega
theorem l_room (n : Nat) (hn : n < 9223372036854775808) : CallOk Tryz.prog 24 [.int .i64 n] (.int .i64 (roomB n)) [] := by
  unfold roomB
  by_cases h1 : n % 6 = 5
  · rw [if_pos h1]
    (refine callOk_of_wpc (W := fun _ => false) false hm' Tryz.func24 rfl (by kernel_rfl) (Nat.le_of_ble_eq_true rfl) (go_start ?_); generalize hQ : Post Tryz.prog Tryz.f24 _ _ _ _ _ = Q; simp only [stIn, matL, matA, st00])
    simp (disch := omega) only [go_sem, Nat.reduceEqDiff, Nat.reduceBEq, ↓reduceIte, reduceCtorEq, h1]
    rw [← hQ]
    exact post_one (.inl rfl) rfl (by simp [upd_app] <;> omega) rfl
  by_cases h2 : n % 3 = 0
  · rw [if_neg h1, if_pos h2]
    (refine callOk_of_wpc (W := fun _ => false) false hm' Tryz.func24 rfl (by kernel_rfl) (Nat.le_of_ble_eq_true rfl) (go_start ?_); generalize hQ : Post Tryz.prog Tryz.f24 _ _ _ _ _ = Q; simp only [stIn, matL, matA, st00])
    simp (disch := omega) only [go_sem, Nat.reduceEqDiff, Nat.reduceBEq, ↓reduceIte, reduceCtorEq, h2]
    rw [← hQ]
    exact post_one (.inl rfl) rfl (by simp [upd_app] <;> omega) rfl
  · rw [if_neg h1, if_neg h2]
    (refine callOk_of_wpc (W := fun _ => false) false hm' Tryz.func24 rfl (by kernel_rfl) (Nat.le_of_ble_eq_true rfl) (go_start ?_); generalize hQ : Post Tryz.prog Tryz.f24 _ _ _ _ _ = Q; simp only [stIn, matL, matA, st00])
    simp (disch := omega) only [go_sem, Nat.reduceEqDiff, Nat.reduceBEq, ↓reduceIte, reduceCtorEq]
    rw [← hQ]
    exact post_one (.inl rfl) rfl (by simp [upd_app] <;> omega) rfl
def szL : List (List UInt8) → Int → Int
 | [], l => l
 | x :: xs, l => if l - x.length < 0 then -1 else szL xs (l - x.length)
def szS (xs : List (List UInt8)) (l : Int) : Int := if l - xs.length < 0 then -1 else szL xs (l - xs.length)
theorem szL_bd : ∀ {xs : List (List UInt8)} {l : Int}, 0 ≤ l → 0 ≤ szL xs l → (∀ x ∈ xs, (x.length : Int) ≤ l) ∧ szL xs l ≤ l
  | [], l, h0, _ => by simp [szL]
  | x :: xs, l, h0, h => by
    simp only [szL] at h ⊢
    by_cases hx : l - x.length < 0
    · rw [if_pos hx] at h; omega
    · rw [if_neg hx] at h ⊢
      have := szL_bd (by omega) h
      exact ⟨by intro y hy; rcases List.mem_cons.1 hy with rfl | hy; omega; have := this.1 y hy; omega, by omega⟩
theorem szS_bd {xs : List (List UInt8)} {l : Int} (h0 : 0 ≤ l) (h : 0 ≤ szS xs l) : (xs.length : Int) ≤ l ∧ (∀ x ∈ xs, (x.length : Int) ≤ l) ∧ szS xs l ≤ l := by
  unfold szS at h ⊢
  by_cases hx : l - xs.length < 0
  · rw [if_pos hx] at h; omega
  · rw [if_neg hx] at h ⊢
    have := szL_bd (by omega) h
    exact ⟨by omega, fun x hx => by have := this.1 x hx; omega, by omega⟩
theorem l_sz (xs : List (List UInt8)) (l : Int) (hl0 : 0 ≤ l) (hl1 : l ≤ 1000000) (hn : xs.length < 4611686018427387904) (hs : ∀ x ∈ xs, x.length < 4611686018427387904) :
    CallOk Tryz.prog 9 [.sl 9 (strA xs) [] false, .int .i64 l] (.int .i64 (szS xs l)) [] := by
  obtain ⟨n, hn'⟩ : ∃ n, xs.length = n := ⟨_, rfl⟩
  rw [hn'] at hn
  unfold szS
  rw [hn']
  by_cases h1 : l - n < 0
  · rw [if_pos h1]
    (refine callOk_of_wpc (W := fun _ => false) false hm' Tryz.func9 rfl (by kernel_rfl) (Nat.le_of_ble_eq_true rfl) (go_start ?_); generalize hQ : Post Tryz.prog Tryz.f9 _ _ _ _ _ = Q; simp only [stIn, matL, matA, st00])
    simp (disch := omega) only [go_sem, Nat.reduceEqDiff, Nat.reduceBEq, ↓reduceIte, reduceCtorEq, strA_length, hn']
    rw [← hQ]
    exact post_one (.inl rfl) rfl (by simp [upd_app] <;> omega) rfl
  rw [if_neg h1]
  (refine callOk_of_wpc (W := fun _ => false) false hm' Tryz.func9 rfl (by kernel_rfl) (Nat.le_of_ble_eq_true rfl) (go_start ?_); generalize hQ : Post Tryz.prog Tryz.f9 _ _ _ _ _ = Q; simp only [stIn, matL, matA, st00])
  simp (disch := omega) only [go_sem, Nat.reduceEqDiff, Nat.reduceBEq, ↓reduceIte, reduceCtorEq, strA_length, hn']
  refine k_loop (fun (p : Nat × Int) st => st.fr 0 = .sl 9 (strA xs) [] false ∧ st.fr 1 = .int .i64 p.2 ∧ st.fr 5 = .int .i64 p.1 ∧ p.1 ≤ n ∧ 0 ≤ p.2 ∧ p.2 ≤ 1000000 ∧ szL xs (l - n) = szL (xs.drop p.1) p.2) (fun p => n - p.1) (0, l - n)
    ⟨(by simp [upd_app] <;> omega), (by simp [upd_app] <;> omega), (by simp [upd_app] <;> omega), by simp, by simp only; omega, by simp only; omega, rfl⟩ ?_
  rintro ⟨i, q⟩ ⟨fr, h, nx⟩ ⟨g0, g1, g5, hi, hq0, hq1, hsz⟩ J hJ
  simp only at g0 g1 g5 hi hq0 hq1 hsz
  by_cases hin : i < n
  · obtain ⟨x, hx⟩ := get_some (xs := xs) (i := i) (by omega)
    have hxl := hs x (List.mem_of_getElem? hx)
    rw [drop_cons hx, szL] at hsz
    by_cases hneg : q - x.length < 0
    · rw [if_pos hneg] at hsz
      rw [hsz] at hQ
      simp (disch := omega) only [go_sem, Nat.reduceEqDiff, Nat.reduceBEq, ↓reduceIte, reduceCtorEq, g0, g1, g5, strA_length, strA_at, hx, hn']
      rw [← hQ]
      exact post_one (.inl rfl) rfl (by simp [upd_app] <;> omega) rfl
    · rw [if_neg hneg] at hsz
      simp (disch := omega) only [go_sem, Nat.reduceEqDiff, Nat.reduceBEq, ↓reduceIte, reduceCtorEq, g0, g1, g5, strA_length, strA_at, hx, hn']
      exact hJ (i + 1, q - x.length) _ ⟨(by simp [upd_app, g0] <;> omega), (by simp [upd_app] <;> omega), (by simp [upd_app] <;> omega), hin, by simp only; omega, by simp only; omega, hsz⟩ (by simp only; omega)
  · obtain rfl : i = n := by omega
    rw [List.drop_eq_nil_of_le (by omega), szL] at hsz
    rw [hsz] at hQ
    simp (disch := omega) only [go_sem, Nat.reduceEqDiff, Nat.reduceBEq, ↓reduceIte, reduceCtorEq, g0, g1, g5, strA_length, hn']
    rw [← hQ]
    exact post_one (.inl rfl) rfl (by simp [upd_app, g1] <;> omega) rfl
theorem l_eq (xs ys : List (List UInt8)) (hx : xs.length < 4611686018427387904) (hy : ys.length < 4611686018427387904) : CallOk Tryz.prog 35 [.sl 9 (strA xs) [] false, .sl 9 (strA ys) [] false] (.bool (decide (xs = ys))) [] := by
  by_cases hl : xs.length = ys.length
  · obtain ⟨n, hn⟩ : ∃ n, xs.length = n := ⟨_, rfl⟩
    have hn2 : ys.length = n := by omega
    rw [hn] at hx
    clear hl hy
    (refine callOk_of_wpc (W := fun _ => false) false hm' Tryz.func35 rfl (by kernel_rfl) (Nat.le_of_ble_eq_true rfl) (go_start ?_); generalize hQ : Post Tryz.prog Tryz.f35 _ _ _ _ _ = Q; simp only [stIn, matL, matA, st00])
    simp (disch := omega) only [go_sem, Nat.reduceEqDiff, Nat.reduceBEq, ↓reduceIte, reduceCtorEq, strA_length, hn, hn2]
    refine k_loop (fun (i : Nat) st => st.fr 0 = .sl 9 (strA xs) [] false ∧ st.fr 1 = .sl 9 (strA ys) [] false ∧ st.fr 5 = .int .i64 i ∧ i ≤ n ∧ xs.take i = ys.take i) (fun i => n - i) 0 ⟨(by simp [upd_app] <;> omega), (by simp [upd_app] <;> omega), (by simp [upd_app] <;> omega), by omega, by simp⟩ ?_
    rintro i ⟨fr, h, nx⟩ ⟨g0, g1, g5, hi, he⟩ J hJ
    simp only at g0 g1 g5
    by_cases hin : i < n
    · obtain ⟨x, hxx⟩ := get_some (xs := xs) (i := i) (by omega)
      obtain ⟨y, hyy⟩ := get_some (xs := ys) (i := i) (by omega)
      by_cases hxy : x = y
      · subst hxy
        have e : (x == x) = true := by simp
        simp (disch := omega) only [go_sem, Nat.reduceEqDiff, Nat.reduceBEq, ↓reduceIte, reduceCtorEq, g0, g1, g5, strA_length, strA_at, hxx, hyy, hn, hn2, e]
        exact hJ (i + 1) _ ⟨(by simp [upd_app, g0] <;> omega), (by simp [upd_app, g1] <;> omega), (by simp [upd_app] <;> omega), hin, by rw [List.take_add_one, List.take_add_one, hxx, hyy, he]⟩ (by omega)
      · have e : (x == y) = false := by simpa using hxy
        have hne : xs ≠ ys := fun h => hxy (by rw [h, hyy] at hxx; exact (Option.some.inj hxx).symm)
        have hd : decide (xs = ys) = false := by simpa using hne
        rw [hd] at hQ
        simp (disch := omega) only [go_sem, Nat.reduceEqDiff, Nat.reduceBEq, ↓reduceIte, reduceCtorEq, g0, g1, g5, strA_length, strA_at, hxx, hyy, hn, hn2, e]
        rw [← hQ]
        exact post_one (.inl rfl) rfl (by simp [upd_app] <;> omega) rfl
    · have hd : decide (xs = ys) = true := by
        rw [List.take_of_length_le (by omega), List.take_of_length_le (by omega)] at he; simpa using he
      rw [hd] at hQ
      simp (disch := omega) only [go_sem, Nat.reduceEqDiff, Nat.reduceBEq, ↓reduceIte, reduceCtorEq, g0, g1, g5, strA_length, hn]
      rw [← hQ]
      exact post_one (.inl rfl) rfl (by simp [upd_app] <;> omega) rfl
  · have hne : decide (xs = ys) = false := by simp; exact fun h => hl (by rw [h])
    rw [hne]
    (refine callOk_of_wpc (W := fun _ => false) false hm' Tryz.func35 rfl (by kernel_rfl) (Nat.le_of_ble_eq_true rfl) (go_start ?_); generalize hQ : Post Tryz.prog Tryz.f35 _ _ _ _ _ = Q; simp only [stIn, matL, matA, st00])
    simp (disch := omega) only [go_sem, Nat.reduceEqDiff, Nat.reduceBEq, ↓reduceIte, reduceCtorEq, strA_length]
    rw [← hQ]
    exact post_one (.inl rfl) rfl (by simp [upd_app] <;> omega) rfl
def spareT : List UInt8 := [126, 115, 112, 97, 114, 101, 126]
def spareL (n : Nat) : List (List UInt8) := List.replicate (roomB n) spareT
theorem strA_put {xs : List (List UInt8)} {i : Nat} {v : List UInt8} : (strA xs).set i (.str v) = strA (xs.set i v) := by simp [strA, List.map_set]
theorem strA_rep {n : Nat} : List.replicate n (AV.str []) = strA (List.replicate n []) := by simp [strA]
theorem strA_append {xs ys : List (List UInt8)} : strA xs ++ strA ys = strA (xs ++ ys) := by simp [strA]
theorem strA_take {xs : List (List UInt8)} {n : Nat} : (strA xs).take n = strA (xs.take n) := by simp [strA, List.map_take]
theorem strA_drop {xs : List (List UInt8)} {n : Nat} : (strA xs).drop n = strA (xs.drop n) := by simp [strA, List.map_drop]
theorem rep_set {α : Type} {a : List α} {k : Nat} {z v : α} : (a ++ List.replicate (k + 1) z).set a.length v = (a ++ [v]) ++ List.replicate k z := by
 rw [List.set_append_right _ _ (Nat.le_refl _), Nat.sub_self, List.replicate_succ, List.set_cons_zero]; simp
theorem l_to (xs : List (List UInt8)) (b : Bool) (hb : b = false ∨ xs ≠ []) (hn : xs.length ≤ 1000000) : CallOk Tryz.prog 12 [.sl 9 (strA xs) [] false, .bool b] (.own 9 (strA xs) (strA (spareL xs.length)) true) [] := by
  obtain ⟨n, hn'⟩ : ∃ n, xs.length = n := ⟨_, rfl⟩
  rw [hn'] at hn ⊢
  obtain ⟨r, hr⟩ : ∃ r, roomB n = r := ⟨_, rfl⟩
  have hrl := room_le n
  rw [hr] at hrl
  have hsp : spareL n = List.replicate r spareT := by rw [spareL, hr]
  have hroom := l_room n (by omega)
  rw [hr] at hroom
  have hne : b = true → ¬ n = 0 := fun h h0 => by rcases hb with h' | h'; rw [h] at h'; cases h'; exact h' (List.length_eq_zero_iff.1 (by omega))
  (refine callOk_of_wpc (W := fun _ => false) true hm' Tryz.func12 rfl (by kernel_rfl) (Nat.le_of_ble_eq_true rfl) (go_start ?_); generalize hQ : Post Tryz.prog Tryz.f12 _ _ _ _ _ = Q; simp only [stIn, matL, matA, st00])
  obtain ⟨R, hR⟩ : ∃ R : Nat → St → Prop, R = fun i st => st.fr 0 = .sl 9 (strA xs) [] false ∧ st.fr 5 = .ref 0 (n + r) 0 (n + r) ∧ st.fr 6 = .int .i64 i ∧ i ≤ n ∧ st.h 0 = ⟨9, strA (xs.take i ++ List.replicate (n + r - i) []), true, true, true⟩ := ⟨_, rfl⟩
  obtain ⟨R2, hR2⟩ : ∃ R : Nat → St → Prop, R = fun i st => st.fr 0 = .sl 9 (strA xs) [] false ∧ st.fr 5 = .ref 0 (n + r) 0 (n + r) ∧ st.fr 7 = .int .i64 ((n + i : Nat) : Int) ∧ i ≤ r ∧ st.h 0 = ⟨9, strA ((xs ++ List.replicate i spareT) ++ List.replicate (r - i) []), true, true, true⟩ := ⟨_, rfl⟩
  cases b with
  | false =>
    simp (disch := omega) only [go_sem, Nat.reduceEqDiff, Nat.reduceBEq, ↓reduceIte, reduceCtorEq, strA_length, hn']
    refine x_callP hroom cl_room (by simp [evA, upd_app]) (by simp [AV.pure, AV.pureL]) rfl ?_
    simp (disch := omega) only [go_sem, Nat.reduceEqDiff, Nat.reduceBEq, ↓reduceIte, reduceCtorEq, strA_length, hn', reach, strA_rep]
    refine k_loop R (fun i => n - i) 0 (by rw [hR]; exact ⟨(by simp [upd_app] <;> omega), (by simp [upd_app] <;> omega), (by simp [upd_app] <;> omega), by omega, by simp [upd_app]⟩) ?_
    rintro i ⟨fr, h, nx⟩ hst J hJ
    rw [hR] at hst
    obtain ⟨g0, g5, g6, hi, hm⟩ := hst
    simp only at g0 g5 g6 hm
    by_cases hin : i < n
    · obtain ⟨x, hx⟩ := get_some (xs := xs) (i := i) (by omega)
      have hal : (xs.take i ++ List.replicate (n + r - i) ([] : List UInt8)).length = n + r := by simp; omega
      have hti : (xs.take i).length = i := by simp; omega
      have hset : (xs.take i ++ List.replicate (n + r - i) ([] : List UInt8)).set i x = xs.take (i + 1) ++ List.replicate (n + r - (i + 1)) [] := by
        have h1 := rep_set (a := xs.take i) (k := n + r - (i + 1)) (z := ([] : List UInt8)) (v := x)
        rw [hti, show n + r - (i + 1) + 1 = n + r - i by omega] at h1
        rw [h1, List.take_add_one, hx]; rfl
      have hget : (xs.take i ++ List.replicate (n + r - i) ([] : List UInt8))[i]? = some [] := by
        rw [List.getElem?_append_right (by omega), hti, Nat.sub_self, List.getElem?_replicate, if_pos (by omega)]
      simp (disch := omega) only [go_sem, Nat.reduceEqDiff, Nat.reduceBEq, ↓reduceIte, reduceCtorEq, g0, g5, g6, strA_length, strA_at, hn', hx, hm, hal, strA_put, hset, hget]
      exact hJ (i + 1) _ (by rw [hR]; exact ⟨(by simp [upd_app, g0] <;> omega), (by simp [upd_app, g5] <;> omega), (by simp [upd_app] <;> omega), hin, by simp [upd_app]⟩) (by omega)
    · obtain rfl : i = n := by omega
      rw [List.take_of_length_le (by omega), show i + r - i = r by omega] at hm
      clear hJ hR
      simp (disch := omega) only [go_sem, Nat.reduceEqDiff, Nat.reduceBEq, ↓reduceIte, reduceCtorEq, g0, g5, g6, strA_length, hn']
      refine k_loop R2 (fun i => r - i) 0 (by rw [hR2]; exact ⟨(by simp [upd_app, g0] <;> omega), (by simp [upd_app, g5] <;> omega), (by simp [upd_app] <;> omega), by omega, by simpa using hm⟩) ?_
      clear g0 g5 g6 hm
      rintro j ⟨fr, h, nx⟩ hst J hJ
      rw [hR2] at hst
      obtain ⟨g0, g5, g7, hj, hm⟩ := hst
      simp only at g0 g5 g7 hm
      have hal : ((xs ++ List.replicate j spareT) ++ List.replicate (r - j) ([] : List UInt8)).length = i + r := by simp; omega
      by_cases hjr : j < r
      · have hti : (xs ++ List.replicate j spareT).length = i + j := by simp; omega
        have hset : ((xs ++ List.replicate j spareT) ++ List.replicate (r - j) ([] : List UInt8)).set (i + j) [126, 115, 112, 97, 114, 101, 126] = (xs ++ List.replicate (j + 1) spareT) ++ List.replicate (r - (j + 1)) [] := by
          have h1 := rep_set (a := xs ++ List.replicate j spareT) (k := r - (j + 1)) (z := ([] : List UInt8)) (v := spareT)
          rw [hti, show r - (j + 1) + 1 = r - j by omega] at h1
          rw [show ([126, 115, 112, 97, 114, 101, 126] : List UInt8) = spareT from rfl, h1, List.replicate_succ', List.append_assoc xs]
        have hget : ((xs ++ List.replicate j spareT) ++ List.replicate (r - j) ([] : List UInt8))[i + j]? = some [] := by
          rw [List.getElem?_append_right (by omega), hti, Nat.sub_self, List.getElem?_replicate, if_pos (by omega)]
        simp (disch := omega) only [go_sem, Nat.reduceEqDiff, Nat.reduceBEq, ↓reduceIte, reduceCtorEq, g0, g5, g7, strA_length, strA_at, hm, hal, strA_put, hset, hget]
        exact hJ (j + 1) _ (by rw [hR2]; exact ⟨(by simp [upd_app, g0] <;> omega), (by simp [upd_app, g5] <;> omega), (by simp [upd_app] <;> omega), hjr, by simp [upd_app]⟩) (by omega)
      · obtain rfl : j = r := by omega
        rw [Nat.sub_self, List.replicate_zero, List.append_nil] at hm hal
        simp (disch := omega) only [go_sem, Nat.reduceEqDiff, Nat.reduceBEq, ↓reduceIte, reduceCtorEq, g0, g5, g7, strA_length, hm, hal, hn']
        rw [← hQ]
        exact post_own (id := 0) (n := i + j) (len := i) (.inl rfl) rfl (by simp [upd_app] <;> omega) (by simp [hm]) (by simp [hm, strA_length]; omega) (by simp [hm]) (by simp [hm]) (by omega) (by simp [hm, strA_take, ← hn']) (by rw [hsp]; simp [hm, strA_drop, ← hn']) (by simp [hm]) (strA_pure _) (strA_pure _)
  | true =>
    have hn0 := hne rfl
    simp (disch := omega) only [go_sem, Nat.reduceEqDiff, Nat.reduceBEq, ↓reduceIte, reduceCtorEq, strA_length, hn']
    refine x_callP hroom cl_room (by simp [evA, upd_app]) (by simp [AV.pure, AV.pureL]) rfl ?_
    simp (disch := omega) only [go_sem, Nat.reduceEqDiff, Nat.reduceBEq, ↓reduceIte, reduceCtorEq, strA_length, hn', reach, strA_rep]
    refine k_loop R (fun i => n - i) 0 (by rw [hR]; exact ⟨(by simp [upd_app] <;> omega), (by simp [upd_app] <;> omega), (by simp [upd_app] <;> omega), by omega, by simp [upd_app]⟩) ?_
    rintro i ⟨fr, h, nx⟩ hst J hJ
    rw [hR] at hst
    obtain ⟨g0, g5, g6, hi, hm⟩ := hst
    simp only at g0 g5 g6 hm
    by_cases hin : i < n
    · obtain ⟨x, hx⟩ := get_some (xs := xs) (i := i) (by omega)
      have hal : (xs.take i ++ List.replicate (n + r - i) ([] : List UInt8)).length = n + r := by simp; omega
      have hti : (xs.take i).length = i := by simp; omega
      have hset : (xs.take i ++ List.replicate (n + r - i) ([] : List UInt8)).set i x = xs.take (i + 1) ++ List.replicate (n + r - (i + 1)) [] := by
        have h1 := rep_set (a := xs.take i) (k := n + r - (i + 1)) (z := ([] : List UInt8)) (v := x)
        rw [hti, show n + r - (i + 1) + 1 = n + r - i by omega] at h1
        rw [h1, List.take_add_one, hx]; rfl
      have hget : (xs.take i ++ List.replicate (n + r - i) ([] : List UInt8))[i]? = some [] := by
        rw [List.getElem?_append_right (by omega), hti, Nat.sub_self, List.getElem?_replicate, if_pos (by omega)]
      simp (disch := omega) only [go_sem, Nat.reduceEqDiff, Nat.reduceBEq, ↓reduceIte, reduceCtorEq, g0, g5, g6, strA_length, strA_at, hn', hx, hm, hal, strA_put, hset, hget]
      exact hJ (i + 1) _ (by rw [hR]; exact ⟨(by simp [upd_app, g0] <;> omega), (by simp [upd_app, g5] <;> omega), (by simp [upd_app] <;> omega), hin, by simp [upd_app]⟩) (by omega)
    · obtain rfl : i = n := by omega
      rw [List.take_of_length_le (by omega), show i + r - i = r by omega] at hm
      clear hJ hR
      simp (disch := omega) only [go_sem, Nat.reduceEqDiff, Nat.reduceBEq, ↓reduceIte, reduceCtorEq, g0, g5, g6, strA_length, hn']
      refine k_loop R2 (fun i => r - i) 0 (by rw [hR2]; exact ⟨(by simp [upd_app, g0] <;> omega), (by simp [upd_app, g5] <;> omega), (by simp [upd_app] <;> omega), by omega, by simpa using hm⟩) ?_
      clear g0 g5 g6 hm
      rintro j ⟨fr, h, nx⟩ hst J hJ
      rw [hR2] at hst
      obtain ⟨g0, g5, g7, hj, hm⟩ := hst
      simp only at g0 g5 g7 hm
      have hal : ((xs ++ List.replicate j spareT) ++ List.replicate (r - j) ([] : List UInt8)).length = i + r := by simp; omega
      by_cases hjr : j < r
      · have hti : (xs ++ List.replicate j spareT).length = i + j := by simp; omega
        have hset : ((xs ++ List.replicate j spareT) ++ List.replicate (r - j) ([] : List UInt8)).set (i + j) [126, 115, 112, 97, 114, 101, 126] = (xs ++ List.replicate (j + 1) spareT) ++ List.replicate (r - (j + 1)) [] := by
          have h1 := rep_set (a := xs ++ List.replicate j spareT) (k := r - (j + 1)) (z := ([] : List UInt8)) (v := spareT)
          rw [hti, show r - (j + 1) + 1 = r - j by omega] at h1
          rw [show ([126, 115, 112, 97, 114, 101, 126] : List UInt8) = spareT from rfl, h1, List.replicate_succ', List.append_assoc xs]
        have hget : ((xs ++ List.replicate j spareT) ++ List.replicate (r - j) ([] : List UInt8))[i + j]? = some [] := by
          rw [List.getElem?_append_right (by omega), hti, Nat.sub_self, List.getElem?_replicate, if_pos (by omega)]
        simp (disch := omega) only [go_sem, Nat.reduceEqDiff, Nat.reduceBEq, ↓reduceIte, reduceCtorEq, g0, g5, g7, strA_length, strA_at, hm, hal, strA_put, hset, hget]
        exact hJ (j + 1) _ (by rw [hR2]; exact ⟨(by simp [upd_app, g0] <;> omega), (by simp [upd_app, g5] <;> omega), (by simp [upd_app] <;> omega), hjr, by simp [upd_app]⟩) (by omega)
      · obtain rfl : j = r := by omega
        rw [Nat.sub_self, List.replicate_zero, List.append_nil] at hm hal
        simp (disch := omega) only [go_sem, Nat.reduceEqDiff, Nat.reduceBEq, ↓reduceIte, reduceCtorEq, g0, g5, g7, strA_length, hm, hal, hn']
        rw [← hQ]
        exact post_own (id := 0) (n := i + j) (len := i) (.inl rfl) rfl (by simp [upd_app] <;> omega) (by simp [hm]) (by simp [hm, strA_length]; omega) (by simp [hm]) (by simp [hm]) (by omega) (by simp [hm, strA_take, ← hn']) (by rw [hsp]; simp [hm, strA_drop, ← hn']) (by simp [hm]) (strA_pure _) (strA_pure _)
theorem l_toNil : CallOk Tryz.prog 12 [.sl 9 (strA []) [] false, .bool true] .nil [] := by
 (refine callOk_of_wpc (W := fun _ => false) false hm' Tryz.func12 rfl (by kernel_rfl) (Nat.le_of_ble_eq_true rfl) (go_start ?_); generalize hQ : Post Tryz.prog Tryz.f12 _ _ _ _ _ = Q; simp only [stIn, matL, matA, st00])
 simp (disch := omega) only [go_sem, Nat.reduceEqDiff, Nat.reduceBEq, ↓reduceIte, reduceCtorEq, strA_length, List.length_nil]
 rw [← hQ]
 exact post_one (.inl rfl) rfl (by simp [upd_app] <;> omega) rfl
theorem snap_two {st : St} {a b x y : AV} {i j : List Nat} (h1 : snapA st 8 a = some (x, i)) (h2 : snapA st 8 b = some (y, j)) : snapL (snapA st 8) [a, b] = some ([x, y], i ++ j) := by simp [snapL, h1, h2]
theorem snap_strs {st : St} {id n len : Nat} {xs : List (List UInt8)} {ex gr : Bool} (h : st.h id = ⟨9, strA xs, ex, gr, true⟩) (hn : xs.length = n) (hl : len ≤ n) : snapA st 8 (.ref id n 0 len) = some (.sl 9 (strA (xs.take len)) [] false, [id]) :=
 snap_frozen (d := 7) (by rw [h]) (by rw [h, strA_length, hn]) (by rw [h]) (by omega) (by rw [h, List.drop_zero, strA_take]) (strA_pure _)
def qd (q : Rat) : Qd := (decide (q.num < 0), q.num.natAbs, q.den)
def sg (b : Bool) (m : Nat) : Int := if b then -(m : Int) else m
theorem sg_abs (b : Bool) (m : Nat) : (sg b m).natAbs = m := by cases b <;> simp [sg]
theorem sg_neg (b : Bool) (m : Nat) : decide (sg b m < 0) = (b && decide (m ≠ 0)) := by
  cases b
  · simp [sg]
  · simp only [sg, if_true, Bool.true_and]
    exact decide_eq_decide.2 (by omega)
theorem sg_div (b : Bool) (m g : Nat) (h : g ∣ m) : sg b m / (g : Int) = sg b (m / g) := by
  cases b
  · simp [sg]
  · simp only [sg, if_true]
    rw [Int.neg_ediv_of_dvd (Int.natCast_dvd_natCast.2 h)]; simp
theorem qd_mkRat (b : Bool) (m n : Nat) (hn : n ≠ 0) : qd (mkRat (sg b m) n) = (b && decide (m ≠ 0), m / Nat.gcd m n, n / Nat.gcd m n) := by
  unfold qd
  have hg : 0 < Nat.gcd m n := Nat.gcd_pos_of_pos_right _ (Nat.pos_of_ne_zero hn)
  rw [Rat.num_mkRat, Rat.den_mkRat, if_neg hn, if_neg hn, sg_abs, Nat.gcd_comm n m, sg_div _ _ _ (Nat.gcd_dvd_left m n), sg_abs, sg_neg]
  have : (m / Nat.gcd m n ≠ 0) ↔ m ≠ 0 := by
    constructor
    · rintro h rfl; simp at h
    · intro h h'
      have := Nat.div_mul_cancel (Nat.gcd_dvd_left m n)
      rw [h'] at this; omega
  simp only [this]
theorem qd_sg (q : Rat) : sg (qd q).1 (qd q).2.1 = q.num := by
 by_cases h : q.num < 0 <;> simp [qd, sg, h] <;> omega
def fits (n : Nat) (q : Rat) : Prop := q.num.natAbs < 2 ^ n ∧ q.den < 2 ^ n
theorem fits_mkRat {n d : Nat} {a : Int} (h1 : a.natAbs < 2 ^ n) (h2 : d < 2 ^ n) (hn : 0 < n) : fits n (mkRat a d) := by
  unfold fits
  rw [Rat.num_mkRat, Rat.den_mkRat]
  have h1n : 1 < 2 ^ n := Nat.one_lt_two_pow (by omega)
  split
  · simp; omega
  · refine ⟨Nat.lt_of_le_of_lt ?_ h1, Nat.lt_of_le_of_lt (Nat.div_le_self _ _) h2⟩
    rw [Int.natAbs_ediv_of_dvd (Int.ofNat_dvd_left.2 (Nat.gcd_dvd_right _ _))]
    exact Nat.div_le_self _ _
theorem mul_lt_pow {a b m n : Nat} (h1 : a < 2 ^ m) (h2 : b < 2 ^ n) : a * b < 2 ^ (m + n) := by
 rw [Nat.pow_add]
 exact Nat.mul_lt_mul'' h1 h2
theorem fits_add {m n : Nat} {a b : Rat} (h1 : fits m a) (h2 : fits n b) : fits (m + n + 1) (a + b) := by
 rw [Rat.add_def']
 have e : 2 ^ (m + n + 1) = 2 ^ (m + n) + 2 ^ (m + n) := by rw [Nat.pow_succ]; omega
 refine fits_mkRat ?_ (by have := mul_lt_pow h1.2 h2.2; omega) (by omega)
 have k1 := mul_lt_pow h1.1 h2.2
 have k2 := mul_lt_pow h2.1 h1.2
 rw [Nat.add_comm n m] at k2
 have := Int.natAbs_add_le (a.num * b.den) (b.num * a.den)
 rw [Int.natAbs_mul, Int.natAbs_mul] at this
 simp only [Int.natAbs_natCast] at this
 omega
theorem fits_neg {m : Nat} {a : Rat} (h : fits m a) : fits m (-a) := by simpa [fits] using h
theorem qd_neg (a : Rat) : qd (-a) = (!(qd a).1 && decide ((qd a).2.1 ≠ 0), (qd a).2.1, (qd a).2.2) := by
  simp only [qd, Rat.neg_num, Rat.neg_den, Int.natAbs_neg]
  congr 1
  by_cases h : a.num < 0
  · simp [h]; omega
  · have : (0 < a.num) ↔ ¬ a.num = 0 := by omega
    simp [h, this]
def sgnQ (q : Qd) : Int := if q.2.1 = 0 then 0 else if q.1 then -1 else 1
def cmpN (m n : Nat) : Int := if m < n then -1 else if n < m then 1 else 0
def cmpQ (a b : Qd) : Int := if sgnQ a ≠ sgnQ b then sgnQ a - sgnQ b else if a.1 then - cmpN (a.2.1 * b.2.2) (b.2.1 * a.2.2) else cmpN (a.2.1 * b.2.2) (b.2.1 * a.2.2)
theorem sgnQ_qd (a : Rat) : sgnQ (qd a) = a.num.sign := by
  simp only [sgnQ, qd]
  by_cases h : a.num = 0
  · simp [h]
  · by_cases h1 : a.num < 0
    · simp [h, h1, Int.sign_eq_neg_one_of_neg h1]
    · simp [h, h1, Int.sign_eq_one_of_pos (show 0 < a.num by omega)]
theorem cmp_lt (a b : Rat) : (cmpQ (qd a) (qd b) < 0 ↔ a < b) ∧ (cmpQ (qd a) (qd b) = 0 ↔ a = b) := by
  have hda := a.den_pos
  have hdb := b.den_pos
  rw [Rat.lt_iff, Rat.eq_iff_mul_eq_mul]
  simp only [cmpQ, sgnQ_qd]
  by_cases hs : a.num.sign = b.num.sign
  · simp only [hs, ne_eq, not_true_eq_false, if_false]
    simp only [qd, cmpN]
    by_cases h1 : a.num < 0
    · have h2 : b.num < 0 := by rw [Int.sign_eq_neg_one_of_neg h1] at hs; exact Int.sign_eq_neg_one_iff_neg.1 hs.symm
      obtain ⟨m, hm⟩ : ∃ m : Nat, a.num = -m := ⟨a.num.natAbs, by omega⟩
      obtain ⟨n, hn⟩ : ∃ n : Nat, b.num = -n := ⟨b.num.natAbs, by omega⟩
      simp only [hm, hn, Int.natAbs_neg, Int.natAbs_natCast, Int.neg_mul]
      have e1 : ((m : Int) * b.den) = ((m * b.den : Nat) : Int) := by simp
      have e2 : ((n : Int) * a.den) = ((n * a.den : Nat) : Int) := by simp
      rw [e1, e2]
      generalize m * b.den = X; generalize n * a.den = Y
      rw [hm] at h1
      simp only [h1, decide_true, if_true]
      split
      · omega
      · split <;> omega
    · obtain ⟨m, hm⟩ : ∃ m : Nat, a.num = m := ⟨a.num.natAbs, by omega⟩
      obtain ⟨n, hn⟩ : ∃ n : Nat, b.num = n := ⟨b.num.natAbs, by
        have : ¬ b.num < 0 := fun h => by rw [Int.sign_eq_neg_one_of_neg h] at hs; exact h1 (Int.sign_eq_neg_one_iff_neg.1 hs)
        omega⟩
      simp only [hm, hn, Int.natAbs_natCast]
      have e1 : ((m : Int) * b.den) = ((m * b.den : Nat) : Int) := by simp
      have e2 : ((n : Int) * a.den) = ((n * a.den : Nat) : Int) := by simp
      rw [e1, e2]
      generalize m * b.den = X; generalize n * a.den = Y
      have h0 : ¬ ((m : Int) < 0) := by omega
      simp only [h0, decide_false, Bool.false_eq_true, if_false]
      split
      · omega
      · split <;> omega
  · simp only [ne_eq, hs, not_false_eq_true, if_true]
    have ha : a.num * b.den < 0 ↔ a.num < 0 := by
      constructor
      · intro h; exact Int.not_le.1 fun h' => by have := Int.mul_nonneg h' (Int.natCast_nonneg b.den); omega
      · intro h; exact Int.mul_neg_of_neg_of_pos h (by omega)
    have ha' : 0 < a.num * b.den ↔ 0 < a.num := by
      constructor
      · intro h; exact Int.not_le.1 fun h' => by have := Int.mul_nonpos_of_nonpos_of_nonneg h' (Int.natCast_nonneg b.den); omega
      · intro h; exact Int.mul_pos h (by omega)
    have hb : b.num * a.den < 0 ↔ b.num < 0 := by
      constructor
      · intro h; exact Int.not_le.1 fun h' => by have := Int.mul_nonneg h' (Int.natCast_nonneg a.den); omega
      · intro h; exact Int.mul_neg_of_neg_of_pos h (by omega)
    have hb' : 0 < b.num * a.den ↔ 0 < b.num := by
      constructor
      · intro h; exact Int.not_le.1 fun h' => by have := Int.mul_nonpos_of_nonpos_of_nonneg h' (Int.natCast_nonneg a.den); omega
      · intro h; exact Int.mul_pos h (by omega)
    have sg : ∀ x : Int, (x < 0 ∧ x.sign = -1) ∨ (x = 0 ∧ x.sign = 0) ∨ (0 < x ∧ x.sign = 1) := fun x => by
      rcases Int.lt_trichotomy x 0 with h | h | h
      · exact .inl ⟨h, Int.sign_eq_neg_one_of_neg h⟩
      · exact .inr (.inl ⟨h, by simp [h]⟩)
      · exact .inr (.inr ⟨h, Int.sign_eq_one_of_pos h⟩)
    generalize a.num * b.den = X at *
    generalize b.num * a.den = Y at *
    rcases sg a.num with ⟨h1, h2⟩ | ⟨h1, h2⟩ | ⟨h1, h2⟩ <;> rcases sg b.num with ⟨h3, h4⟩ | ⟨h3, h4⟩ | ⟨h3, h4⟩ <;> rw [h2, h4] at hs ⊢ <;> omega
inductive Tok (p : Prop) : Type | mk
def Hid (p : Prop) (_ : Tok p) : Prop := p
theorem orHid {p q : Prop} (h : q → p) : p = (Hid p .mk ∨ q) := propext ⟨.inl, fun h' => h'.elim id h⟩
structure CC where
 d : Option Tmp
 ops : Array Oper
 os : List Oper
 fr : Nat → AV
 h : Nat → Blk
 nx : Nat
 K : St → Prop
inductive TokC (c : CC) : Type | mk
def callW (P : Program) (W : FuncId → Bool) (g : FuncId) (al : List AV) (c : CC) (_ : TokC c) : Prop :=
 callable P g = true ∧ ∃ x st', InOk P ⟨c.fr, c.h, c.nx⟩ g al x st' ∧ (W g = false → st'.h = c.h ∧ st'.nx = c.nx) ∧ (W g = false → AV.pureL al = true → ∀ h nx, InOk P ⟨c.fr, h, nx⟩ g al x ⟨c.fr, h, nx⟩) ∧ wpos P W c.ops c.os (st'.put c.d x) c.K
section
variable {P : Program} {W : FuncId → Bool} {ops : Array Oper} {os : List Oper} {fr : Nat → AV} {h : Nat → Blk} {nx : Nat} {K : St → Prop} {d : Option Tmp} {t : Nat} {p : String} {af : Array Edge}
theorem x_callV {g : FuncId} {args : Array Operand} {ts : Array TypeId} : wpos P W ops (⟨d, .call { callee := .value (.func g), args := args, argTypes := ts }, t, p, af, none⟩ :: os) ⟨fr, h, nx⟩ K =
    callW P W g (args.toList.map (evA fr)) ⟨d, ops, os, fr, h, nx, K⟩ .mk := by
  simp only [wpos, wpo, guardA, opK, callW, ValCall]
  refine propext ⟨fun hw => ?_, fun hw => ⟨fun _ => ?_, by simp⟩⟩
  · obtain ⟨x, st', ⟨g', first, cap, h1, h2, h3, h4, h5⟩, hk⟩ := hw.1 trivial
    have h1' : AV.fn (.func g) [] [] = AV.fn (.func g') first cap := h1
    injection h1' with e1 e2 e3
    injection e1 with e1
    subst e1; subst e2; subst e3
    have e : St.ev ⟨fr, h, nx⟩ = evA fr := by funext x; rfl
    rw [e] at h3 h5
    exact ⟨h2, x, st', by simpa using h3, fun hg => h4 (by simpa [isW] using hg), fun hg hp h nx => by simpa using h5 (by simpa [isW] using hg) (by simpa using hp) h nx, hk⟩
  · obtain ⟨h2, x, st', h3, h4, h5, hk⟩ := hw
    have e : St.ev ⟨fr, h, nx⟩ = evA fr := by funext x; rfl
    exact ⟨x, st', ⟨g, [], [], rfl, h2, by rw [e]; simpa using h3, fun hg => h4 (by simpa [isW] using hg), fun hg hp h nx => by rw [e] at hp ⊢; simpa using h5 (by simpa [isW] using hg) (by simpa using hp) h nx⟩, hk⟩
end
abbrev CW (P : Program) (g : FuncId) (al : List AV) (r : AV) : Prop :=
 ∀ (W : FuncId → Bool) (d : Option Tmp) (ops : Array Oper) (os : List Oper) (fr : Nat → AV) (h : Nat → Blk) (nx : Nat) (K : St → Prop) (t : TokC ⟨d, ops, os, fr, h, nx, K⟩),
  callW P W g al ⟨d, ops, os, fr, h, nx, K⟩ t = (Hid (callW P W g al ⟨d, ops, os, fr, h, nx, K⟩ .mk) .mk ∨ wpos P W ops os (St.put ⟨fr, h, nx⟩ d r) K)
theorem cw {P : Program} {g : FuncId} {al : List AV} {r : AV} (hg : callable P g = true) (hp : AV.pureL al = true) (hr : r.pure = true) (hc : CallOk P g al r []) : CW P g al r := by
 intro W d ops os fr h nx K t
 cases t
 exact orHid fun hk => ⟨hg, r, ⟨fr, h, nx⟩, hc.inOk hp hr, fun _ => ⟨rfl, rfl⟩, fun _ _ _ _ => hc.inOk hp hr, hk⟩
section
variable {P : Program} {W : FuncId → Bool} {d : Option Tmp} {ops : Array Oper} {os : List Oper} {fr : Nat → AV} {h : Nat → Blk} {nx : Nat} {K : St → Prop} {t : TokC ⟨d, ops, os, fr, h, nx, K⟩} {g : FuncId} {al : List AV}
theorem callW_I {x : AV} {h' : Nat → Blk} {nx' : Nat} (hi : InOk P ⟨fr, h, nx⟩ g al x ⟨fr, h', nx'⟩) (hg : callable P g = true) (hW : W g = true ∨ h' = h ∧ nx' = nx) (hk : wpos P W ops os (St.put ⟨fr, h', nx'⟩ d x) K) (hpu : W g = true ∨ AV.pureL al = false := by first | exact .inl rfl | exact .inr (by simp [AV.pureL, AV.pure])) : callW P W g al ⟨d, ops, os, fr, h, nx, K⟩ t :=
 ⟨hg, x, ⟨fr, h', nx'⟩, hi, fun hw => hW.elim (fun h => by rw [h] at hw; cases hw) id, fun hw hp => hpu.elim (fun h => by rw [h] at hw; cases hw) (fun h => by rw [h] at hp; cases hp), hk⟩
theorem callW_of (pm : List PM) {sargs : List AV} {sids : List Nat} {io : List (Nat × Nat × Nat)} {eat : List Nat} {r : AV} {outs : List (List AV)}
    (hc : CallOk P g sargs r outs) (hg : callable P g = true) (hp : passL ⟨fr, h, nx⟩ pm al = some (sargs, sids, io, eat))
    (hw : W g = false → (matA true r ⟨fr, eatH (outH h io outs) eat, nx⟩).2.h = h ∧ (matA true r ⟨fr, eatH (outH h io outs) eat, nx⟩).2.nx = nx)
    (h1 : (io.map (·.1) ++ eat).Nodup) (h2 : ∀ i ∈ sids, i ∉ io.map (·.1) ++ eat) (h3 : sids = [] ∨ r.solid = true ∧ AV.solidL outs.flatten = true) (h4 : io = [] ∨ eat = [] ∧ outs.length = io.length)
    (hpu : W g = false → AV.pureL al = true → ∀ h0 nx0, InOk P ⟨fr, h0, nx0⟩ g al (matA true r ⟨fr, eatH (outH h io outs) eat, nx⟩).1 ⟨fr, h0, nx0⟩)
    (hk : wpos P W ops os ((matA true r ⟨fr, eatH (outH h io outs) eat, nx⟩).2.put d (matA true r ⟨fr, eatH (outH h io outs) eat, nx⟩).1) K) : callW P W g al ⟨d, ops, os, fr, h, nx, K⟩ t :=
  ⟨hg, _, _, CallStep.inOk ⟨pm, sargs, sids, io, eat, r, outs, hp, hc, h1, h2, h3, h4, Prod.ext rfl rfl⟩, hw, hpu, hk⟩
theorem passL_snap' {st : St} : ∀ {al sargs : List AV} {ids : List Nat}, snapL (snapA st 8) al = some (sargs, ids) → passL st (al.map fun _ => .snap) al = some (sargs, ids, [], [])
 | [], _, _, h => by simp only [snapL, Option.some.injEq, Prod.mk.injEq] at h; obtain ⟨rfl, rfl⟩ := h; rfl
 | a :: al, sargs, ids, h => by
  obtain ⟨y, i, ys, is, h1, h2, h3⟩ := snapL_cons h
  simp only [Prod.mk.injEq] at h3
  obtain ⟨rfl, rfl⟩ := h3
  simp [passL, passA, h1, passL_snap' h2]
theorem callW_F {as1 : List AV} {ids : List Nat} {r : AV} (hc : CallOk P g as1 r []) (hg : callable P g = true) (hs : snapL (snapA ⟨fr, h, nx⟩ 8) al = some (as1, ids)) (hgr : ∀ i ∈ ids, (h i).gr = true) (hp : AV.pureL as1 = true) (hr : r.pure = true) (hW : W g = true)
  (hk : wpos P W ops os (St.put ⟨fr, eatH h ids, nx⟩ d r) K) : callW P W g al ⟨d, ops, os, fr, h, nx, K⟩ t :=
 callW_I (inOk_freeze hs hgr (hc.inOk hp hr)) hg (.inl hW) hk (.inl hW)
theorem callW_S {sargs : List AV} {ids : List Nat} {r : AV} (hc : CallOk P g sargs r []) (hg : callable P g = true) (hs : snapL (snapA ⟨fr, h, nx⟩ 8) al = some (sargs, ids)) (hr : r.pure = true) (ht : r.solid = true)
    (hk : wpos P W ops os (St.put ⟨fr, h, nx⟩ d r) K) : callW P W g al ⟨d, ops, os, fr, h, nx, K⟩ t := by
  have he : eatH (outH h [] []) [] = h := by funext i; simp [eatH, outH]
  refine callW_of (pm := al.map fun _ => .snap) (outs := []) hc hg (passL_snap' hs) ?_ (by simp) (by simp) (.inr ⟨ht, rfl⟩) (.inl rfl) ?_ ?_
  · intro _; rw [matA_pure _ _ _ hr, he]; exact ⟨rfl, rfl⟩
  · intro _ hp h0 nx0
    rw [snapL_pure hp] at hs; cases hs
    rw [matA_pure _ _ _ hr]; exact hc.inOk' hp hr
  · rw [matA_pure _ _ _ hr, he]; exact hk
theorem callW_P {r : AV} (hc : CallOk P g al r []) (hg : callable P g = true) (hp : AV.pureL al = true) (hr : r.pure = true) (hk : wpos P W ops os (St.put ⟨fr, h, nx⟩ d r) K) : callW P W g al ⟨d, ops, os, fr, h, nx, K⟩ t :=
 ⟨hg, r, ⟨fr, h, nx⟩, hc.inOk hp hr, fun _ => ⟨rfl, rfl⟩, fun _ _ _ _ => hc.inOk hp hr, hk⟩
theorem callW_O {T : Nat} {xs sp : List AV} {ex : Bool} (hc : CallOk P g al (.own T xs sp ex) []) (hg : callable P g = true) (hp : AV.pureL al = true) (hr : AV.pureL xs = true) (hs : AV.pureL sp = true) (hW : W g = true)
  (hk : wpos P W ops os (St.put ⟨fr, upd h nx ⟨T, xs ++ sp, ex, true, true⟩, nx + 1⟩ d (.ref nx (xs.length + sp.length) 0 xs.length)) K) : callW P W g al ⟨d, ops, os, fr, h, nx, K⟩ t :=
 callW_I (hc.inOkO hp hr hs) hg (.inl hW) hk (.inl hW)
end
attribute [go_sem ↓] x_callV
attribute [go_sem] List.toList_toArray List.map_cons List.map_nil
theorem neT {a b : Nat} (h : a ≠ b) : (a ≠ b) = True := by simp [h]
theorem k_appE {P : Program} {w : FuncId → Bool} {d : Nat → Option (List (Nat × Nat))} {i : Nat} {ops : Array Oper} {ks : List Fr} {Q : Ex → St → Prop} {st : St} {h0 : Nat → Blk} : KN P ⟨w, d⟩ i ops h0 ks Q st = (dOk P (d i) ops h0 st ∧ runK P ⟨w, d⟩ ks .normal st Q) := (rfl : _ = _).trans rfl
theorem idsO_mk {st : St} {d : Option Tmp} {o : Op} {t : Nat} {p : String} {af : Array Edge} {g : Option (Nat × Bool)} : idsO st ⟨d, o, t, p, af, g⟩ = idsK st d (kdOf o) := rfl
theorem pureOL_cons {st : St} {d : Option Tmp} {o : Op} {t : Nat} {p : String} {af : Array Edge} {g : Option (Nat × Bool)} {os : List Oper} : pureOL st (⟨d, o, t, p, af, g⟩ :: os) = (pureK st (kdOf o) ∧ pureOL st os) := rfl
theorem pureOL_nil {st : St} : pureOL st [] = True := rfl
theorem ev_fun (fr : Nat → AV) (h : Nat → Blk) (nx : Nat) : St.ev ⟨fr, h, nx⟩ = evA fr := by funext x; rfl
theorem lookAt_eq {P : Program} {h0 : Nat → Blk} {st : St} {ops : Array Oper} {i j : Nat} : lookAt P h0 st ops (i, j) = match ops[i]? with
  | some a => floatK P h0 st a.dst a.op
  | none => True := (rfl : _ = _).trans rfl
attribute [go_sem] isLk lh_some lookL lookAt_eq floatK sameL List.tail_cons isRefA isSlA dOk_none dOk_some neT idsO_mk idsK idOf kdOf isS pureOL_cons pureOL_nil pureK ev_mk ev_fun apartL AV.pureL AV.pure Bool.and_self
instance (n : Nat) (q : Rat) : Decidable (fits n q) := by unfold fits; infer_instance
def badA : AV := .sl 0 [.undef] [] false
theorem rep_bad {P : Program} {E : Env} {v : Value} (h : rep P E badA v) : False := by
 simp only [badA, rep] at h
 obtain ⟨a, cap, _, _, _, h, _⟩ := h
 have := h .undef (by simp)
 simp [AV.el, AV.cells, AV.one] at this
def tI (n : Nat) (q : Rat) : AV := if fits n q then natI q.num.natAbs else badA
def dI (n : Nat) (q : Rat) : AV := if fits n q then natI q.den else badA
def tS (n : Nat) (q : Rat) : AV := if fits n q then natS q.num.natAbs else badA
def dS (n : Nat) (q : Rat) : AV := if fits n q then natS q.den else badA
abbrev rI (n : Nat) (q : Rat) : AV := .agg [.bool (decide (q.num < 0)), tI n q, dI n q]
abbrev rS (n : Nat) (q : Rat) : AV := .agg [.bool (decide (q.num < 0)), tS n q, dS n q]
theorem rI_eq {n : Nat} {q : Rat} (h : fits n q) : rI n q = ratI (qd q) := by simp [rI, tI, dI, h, ratI, qd]
theorem rS_eq {n : Nat} {q : Rat} (h : fits n q) : rS n q = ratS (qd q) := by simp [rS, tS, dS, h, ratS, qd]
@[simp] theorem badA_pure : badA.pure = true := rfl
@[simp] theorem tI_pure (n : Nat) (q : Rat) : (tI n q).pure = true := by unfold tI; split <;> simp
@[simp] theorem dI_pure (n : Nat) (q : Rat) : (dI n q).pure = true := by unfold dI; split <;> simp
@[simp] theorem tS_pure (n : Nat) (q : Rat) : (tS n q).pure = true := by unfold tS; split <;> simp [natS_pure]
@[simp] theorem dS_pure (n : Nat) (q : Rat) : (dS n q).pure = true := by unfold dS; split <;> simp [natS_pure]
@[simp] theorem tI_one (n : Nat) (q : Rat) : (tI n q).one = true := by unfold tI; split <;> rfl
@[simp] theorem dI_one (n : Nat) (q : Rat) : (dI n q).one = true := by unfold dI; split <;> rfl
@[simp] theorem tS_one (n : Nat) (q : Rat) : (tS n q).one = true := by unfold tS; split <;> rfl
@[simp] theorem dS_one (n : Nat) (q : Rat) : (dS n q).one = true := by unfold dS; split <;> rfl
attribute [go_sem] List.take_succ_cons List.take_zero Nat.reduceAdd Nat.reduceLeDiff
theorem natI_one (n : Nat) : (natI n).one = true := rfl
theorem natS_one (n : Nat) : (natS n).one = true := rfl
theorem natI_cells (n : Nat) : (natI n).cells = [natI n] := rfl
theorem natS_cells (n : Nat) : (natS n).cells = [natS n] := rfl
theorem el_iRat3 {a b c : AV} : AV.el Tryz.prog 70 (.agg [a, b, c]) = (a.one && (b.one && c.one)) := by simp [AV.el, s_iRat, AV.cells]
theorem el_sRat3 {a b c : AV} : AV.el Tryz.prog 57 (.agg [a, b, c]) = (a.one && (b.one && c.one)) := by simp [AV.el, s_sRat, AV.cells]
theorem one_bool (b : Bool) : (AV.bool b).one = true := rfl
theorem one_int (k : IntKind) (n : Int) : (AV.int k n).one = true := rfl
theorem one_str (s : List UInt8) : (AV.str s).one = true := rfl
theorem one_nil : AV.nil.one = true := rfl
theorem one_sl (t : Nat) (xs sp : List AV) (ex : Bool) : (AV.sl t xs sp ex).one = true := rfl
theorem one_ref (id n off len : Nat) : (AV.ref id n off len).one = true := rfl
theorem one_ptr (id n i j : Nat) : (AV.ptr id n i j).one = true := rfl
theorem one_cptr (t : Nat) (v : AV) (j : Nat) : (AV.cptr t v j).one = true := rfl
attribute [go_sem] el_iRat3 el_sRat3 one_bool one_int one_str one_nil one_sl one_ref one_ptr one_cptr tI_one dI_one tS_one dS_one natI_one natS_one natI_cells natS_cells
theorem matA_tI (g : Bool) (n : Nat) (q : Rat) (st : St) : matA g (tI n q) st = (tI n q, st) := matA_pure _ _ _ (tI_pure n q)
theorem matA_dI (g : Bool) (n : Nat) (q : Rat) (st : St) : matA g (dI n q) st = (dI n q, st) := matA_pure _ _ _ (dI_pure n q)
theorem matA_tS (g : Bool) (n : Nat) (q : Rat) (st : St) : matA g (tS n q) st = (tS n q, st) := matA_pure _ _ _ (tS_pure n q)
theorem matA_dS (g : Bool) (n : Nat) (q : Rat) (st : St) : matA g (dS n q) st = (dS n q, st) := matA_pure _ _ _ (dS_pure n q)
attribute [go_sem] matA_tI matA_dI matA_tS matA_dS
def ratL (n : Nat) (qs : List Rat) : List AV := qs.map (rI n)
def ratM (n : Nat) (qs : List Rat) : List AV := qs.map (rS n)
theorem ratL_length {n : Nat} {qs : List Rat} : (ratL n qs).length = qs.length := by simp [ratL]
theorem ratM_length {n : Nat} {qs : List Rat} : (ratM n qs).length = qs.length := by simp [ratM]
theorem ratL_at {n : Nat} {qs : List Rat} {i : Nat} : (ratL n qs)[i]? = (qs[i]?).map (rI n) := by simp [ratL]
theorem ratM_at {n : Nat} {qs : List Rat} {i : Nat} : (ratM n qs)[i]? = (qs[i]?).map (rS n) := by simp [ratM]
@[simp] theorem ratL_pure {n : Nat} {qs : List Rat} : AV.pureL (ratL n qs) = true := by induction qs <;> simp_all [ratL, AV.pureL, AV.pure]
@[simp] theorem ratM_pure {n : Nat} {qs : List Rat} : AV.pureL (ratM n qs) = true := by induction qs <;> simp_all [ratM, AV.pureL, AV.pure]
theorem ratL_nil {n : Nat} : ratL n [] = [] := rfl
theorem ratM_nil {n : Nat} : ratM n [] = [] := rfl
theorem ratL_snoc {n : Nat} {qs : List Rat} {q : Rat} : ratL n qs ++ [rI n q] = ratL n (qs ++ [q]) := by simp [ratL]
abbrev lI (n : Nat) (qs : List Rat) : AV := .sl 70 (ratL n qs) [] false
abbrev lS (n : Nat) (qs : List Rat) : AV := .sl 57 (ratM n qs) [] false
attribute [go_sem] ratL_length ratM_length ratL_at ratM_at natA_pure natI_pure natS_pure tI_pure dI_pure tS_pure dS_pure ratL_pure ratM_pure strA_pure
def Told (P : Program) (x : AV) (p : Prop) : Prop := ∀ E v, rep P E x v → p
theorem told_rI {n : Nat} {q : Rat} : Told Tryz.prog (rI n q) (fits n q) := by
 intro E v h
 refine Classical.byContradiction fun hn => ?_
 simp only [rI, tI, hn, if_false, rep, repL] at h
 obtain ⟨vs, _, _, us, _, _, v2, us2, _, h2, _⟩ := h
 exact rep_bad h2
theorem told_rS {n : Nat} {q : Rat} : Told Tryz.prog (rS n q) (fits n q) := by
 intro E v h
 refine Classical.byContradiction fun hn => ?_
 simp only [rS, tS, hn, if_false, rep, repL] at h
 obtain ⟨vs, _, _, us, _, _, v2, us2, _, h2, _⟩ := h
 exact rep_bad h2
theorem callOk_told {P : Program} {f : FuncId} {al : List AV} {r : AV} {outs : List (List AV)} {x : AV} {p : Prop} (ht : Told P x p) (hx : x ∈ al) (hp : x.pure = true) (h : p → CallOk P f al r outs) : CallOk P f al r outs := by
  intro w I vs L h1 h2 h3
  suffices p from h this w I vs L h1 h2 h3
  have : ∀ (al : List AV) (vs : List Value) (L : List OLoc), x ∈ al → ownRL P (bare w I) al vs L → p := by
    intro al
    induction al with
    | nil => intro _ _ h; cases h
    | cons y al ih =>
      intro vs L hx h
      simp only [ownRL] at h
      obtain ⟨v, us, L1, L2, _, _, h3, h4⟩ := h
      rcases List.mem_cons.1 hx with rfl | hx
      · exact ht _ v (rep_of_ownR _ v L1 hp h3).2
      · exact ih us L2 hx h4
  exact this al vs L hx h2
theorem len32 {v n : Nat} (h : v < 2 ^ n) : (enc B32 v).length ≤ n := enc_len_le B32_gt (Nat.lt_of_lt_of_le h (Nat.pow_le_pow_left (by decide) n))
theorem len9 {v n : Nat} (h : v < 2 ^ n) : (enc B9 v).length ≤ n := enc_len_le B9_gt (Nat.lt_of_lt_of_le h (Nat.pow_le_pow_left (by decide) n))
theorem sub_step {B i x y c e c' A D V : Nat} (hv : A + B ^ i * c = D + V) (h : x + B * c' = e + y + c) : A + B ^ i * x + B ^ (i + 1) * c' = D + B ^ i * e + (V + B ^ i * y) := by
  have := congrArg (B ^ i * ·) h
  simp only [Nat.mul_add, ← Nat.mul_assoc, ← Nat.pow_add_one] at this
  omega
theorem val_take_getD {B : Nat} {xs : List Nat} {i : Nat} : val B (xs.take (i + 1)) = val B (xs.take i) + B ^ i * xs.getD i 0 := by
  by_cases h : i < xs.length
  · rw [val_take_succ (getD_some h)]
  · rw [getD_none h, List.take_of_length_le (by omega), List.take_of_length_le (by omega)]; simp
theorem w_natSub {a b : Nat} (ha : (enc B32 a).length ≤ 1099511627776) (hab : b ≤ a) : CW Tryz.prog 75 [natI a, natI b] (natI (a - b)) := by
  refine cw (by kernel_rfl) (by simp [AV.pure, AV.pureL]) (by simp [AV.pure, AV.pureL]) ?_
  (refine callOk_of_wpc (W := fun g => g == 76) false hm' Tryz.func75 rfl (by kernel_rfl) (Nat.le_of_ble_eq_true rfl) (go_start ?_); generalize hQ : Post Tryz.prog Tryz.f75 _ _ _ _ _ = Q; simp only [stIn, matL, matA, st00, natI])
  have hB : B32 = 4294967296 := rfl
  obtain ⟨n, hn⟩ : ∃ n, (enc B32 a).length = n := ⟨_, rfl⟩
  obtain ⟨l, hl⟩ : ∃ l, (enc B32 b).length = l := ⟨_, rfl⟩
  have hln : l ≤ n := by rw [← hl, ← hn]; exact enc_len_mono B32_gt hab
  rw [hn] at ha
  simp (disch := omega) only [go_sem, Nat.reduceEqDiff, Nat.reduceBEq, ↓reduceIte, reduceCtorEq, hn, reach]
  refine k_loop (fun (⟨i, c, ds⟩ : Nat × Nat × List Nat) st => st.fr 0 = natI a ∧ st.fr 1 = natI b ∧ st.fr 5 = .ref 0 n 0 n ∧ st.fr 13 = .int .i64 n ∧ st.fr 14 = .int .i64 i ∧ st.fr 6 = .int .i64 c ∧ st.h 0 = ⟨114, natA .u32 ds, true, true, true⟩ ∧ 0 < st.nx ∧ (ds.length = n) ∧ (i ≤ n) ∧ (c ≤ 1) ∧ (∀ d ∈ ds, d < B32) ∧ (val B32 ((enc B32 a).take i) + B32 ^ i * c = val B32 (ds.take i) + val B32 ((enc B32 b).take i))) (fun (⟨i, c, ds⟩ : Nat × Nat × List Nat) => n - i) (0, 0, List.replicate n 0)
    ⟨(by simp [upd_app, natI] <;> omega), (by simp [upd_app, natI] <;> omega), (by simp [upd_app, natI] <;> omega), (by simp [upd_app, natI] <;> omega), (by simp [upd_app, natI] <;> omega), (by simp [upd_app, natI] <;> omega), (by simp [upd_app, natI] <;> omega), (by simp <;> omega), by simp, by simp, by simp, zeros_lt B32_gt, by simp [val]⟩ ?_
  rintro ⟨i, c, ds⟩ ⟨fr, h, nx⟩ ⟨g0, g1, g5, g13, g14, g6, hm0, hnx, hlen, hi, hc, hq, hv⟩ J hJ
  simp only at g0 g1 g5 g13 g14 g6 hm0 hnx
  simp only [natI] at g0 g1
  have hdl : (natA .u32 ds).length = n := by rw [natA_length, hlen]
  by_cases hin : i < n
  · obtain ⟨x, hx⟩ := get_some (xs := enc B32 a) (i := i) (by omega)
    have hxB : x < B32 := enc_lt B32_gt a x (List.mem_of_getElem? hx)
    obtain ⟨y, hy⟩ : ∃ y, (enc B32 b).getD i 0 = y := ⟨_, rfl⟩
    have hyB : y < B32 := by rw [← hy]; exact getD_lt B32_gt (enc_lt B32_gt b) i
    have hvx := val_take_succ (B := B32) hx
    have hvy := val_take_getD (B := B32) (xs := enc B32 b) (i := i)
    obtain ⟨z, hz⟩ := get_some (xs := ds) (i := i) (by omega)
    rw [hy] at hvy
    have key : ∀ (c' e : Nat) (st : St), c' ≤ 1 → e < B32 → x + B32 * c' = e + y + c → st.fr 0 = natI a → st.fr 1 = natI b → st.fr 5 = .ref 0 n 0 n → st.fr 13 = .int .i64 n → st.fr 14 = .int .i64 ((i + 1 : Nat) : Int) → st.fr 6 = .int .i64 c' →
        st.h 0 = ⟨114, natA .u32 (ds.set i e), true, true, true⟩ → 0 < st.nx → J st := by
      intro c' e st h1 h2 h3 k0 k1 k5 k13 k14 k6 kh kn
      refine hJ (i + 1, c', ds.set i e) st ⟨k0, k1, k5, k13, k14, k6, kh, kn, by simp [hlen], hin, h1, set_lt hq h2, ?_⟩ (by simp only; omega)
      try simp only
      rw [hvx, hvy, val_take_set (by omega)]
      exact sub_step hv h3
    clear hJ hv hvx hvy hq
    rw [hB] at hxB hyB
    by_cases hil : i < l
    · have hyy : (enc B32 b)[i]? = some y := by rw [← hy]; exact getD_some (by omega)
      by_cases hneg : x < c + y
      · simp (disch := omega) only [go_sem, Nat.reduceEqDiff, Nat.reduceBEq, ↓reduceIte, reduceCtorEq, g0, g1, g5, g13, g14, g6, hm0, hdl, hx, hyy, hz, hl, hn, wrapU32neg]
        refine key 1 (x + 4294967296 - c - y) _ (by omega) (by omega) (by omega) (by simp [upd_app, g0, natI] <;> omega) (by simp [upd_app, g1, natI] <;> omega) (by simp [upd_app, g5] <;> omega) (by simp [upd_app, g13] <;> omega) (by simp [upd_app] <;> omega) (by simp [upd_app] <;> omega) ?_ (by simp <;> omega)
        have e : ((x : Int) - c - y + 4294967296) = ((x + 4294967296 - c - y : Nat) : Int) := by omega
        simp [upd_app, e, natA_put]
      · simp (disch := omega) only [go_sem, Nat.reduceEqDiff, Nat.reduceBEq, ↓reduceIte, reduceCtorEq, g0, g1, g5, g13, g14, g6, hm0, hdl, hx, hyy, hz, hl, hn]
        refine key 0 (x - c - y) _ (by omega) (by omega) (by omega) (by simp [upd_app, g0, natI] <;> omega) (by simp [upd_app, g1, natI] <;> omega) (by simp [upd_app, g5] <;> omega) (by simp [upd_app, g13] <;> omega) (by simp [upd_app] <;> omega) (by simp [upd_app] <;> omega) ?_ (by simp <;> omega)
        have e : ((x : Int) - c - y) = ((x - c - y : Nat) : Int) := by omega
        simp [upd_app, e, natA_put]
    · obtain rfl : y = 0 := by rw [← hy]; exact getD_none (by omega)
      by_cases hneg : x < c
      · simp (disch := omega) only [go_sem, Nat.reduceEqDiff, Nat.reduceBEq, ↓reduceIte, reduceCtorEq, g0, g1, g5, g13, g14, g6, hm0, hdl, hx, hz, hl, hn, wrapU32neg]
        refine key 1 (x + 4294967296 - c) _ (by omega) (by omega) (by omega) (by simp [upd_app, g0, natI] <;> omega) (by simp [upd_app, g1, natI] <;> omega) (by simp [upd_app, g5] <;> omega) (by simp [upd_app, g13] <;> omega) (by simp [upd_app] <;> omega) (by simp [upd_app] <;> omega) ?_ (by simp <;> omega)
        have e : ((x : Int) - c + 4294967296) = ((x + 4294967296 - c : Nat) : Int) := by omega
        simp [upd_app, e, natA_put]
      · simp (disch := omega) only [go_sem, Nat.reduceEqDiff, Nat.reduceBEq, ↓reduceIte, reduceCtorEq, g0, g1, g5, g13, g14, g6, hm0, hdl, hx, hz, hl, hn]
        refine key 0 (x - c) _ (by omega) (by omega) (by omega) (by simp [upd_app, g0, natI] <;> omega) (by simp [upd_app, g1, natI] <;> omega) (by simp [upd_app, g5] <;> omega) (by simp [upd_app, g13] <;> omega) (by simp [upd_app] <;> omega) (by simp [upd_app] <;> omega) ?_ (by simp <;> omega)
        have e : ((x : Int) - c) = ((x - c : Nat) : Int) := by omega
        simp [upd_app, e, natA_put]
  · obtain rfl : i = n := by omega
    rw [List.take_of_length_le (by omega), List.take_of_length_le (by omega), List.take_of_length_le (by omega), val_enc B32_gt, val_enc B32_gt] at hv
    have hvl := val_lt (B := B32) hq
    rw [hlen] at hvl
    have hval : val B32 ds = a - b := by
      rcases Nat.eq_zero_or_pos c with rfl | hc0
      · simp at hv; omega
      · obtain rfl : c = 1 := by omega
        omega
    clear hJ
    simp (disch := omega) only [go_sem, Nat.reduceEqDiff, Nat.reduceBEq, ↓reduceIte, reduceCtorEq, g0, g1, g5, g13, g14, hm0, hdl]
    refine callW_F (i_Trim (ds.take i) (by simp; omega)) ci_trim (snapL_one (id := 0) (st := ⟨_, _, _⟩) (by exact hm0) (by simp [hlen]) (Nat.le_refl _)) (by simp [hm0]) (by simp [AV.pure, AV.pureL]) (by simp [AV.pure, AV.pureL]) (by simp) ?_
    simp (disch := omega) only [go_sem, Nat.reduceEqDiff, Nat.reduceBEq, ↓reduceIte, reduceCtorEq]
    have e3 : trimZ (ds.take i) = enc B32 (a - b) := by
      rw [List.take_of_length_le (by simp [hlen]), trimZ_enc B32_gt hq, hval]
    rw [e3, ← hQ]
    exact post_one (.inl rfl) rfl (by simp only [upd_app, ↓reduceIte, natI]) (by simp)
attribute [go_sem] w_natSub
theorem w_natOf {n : Int} (h0 : 0 ≤ n) (h1 : n < 18446744073709551616) : CW Tryz.prog 55 [.int .u64 n] (natI n.toNat) :=
 cw (by kernel_rfl) (by simp [AV.pure, AV.pureL]) (by simp [AV.pure, AV.pureL]) (by have := i_natOf n.toNat (by omega); rwa [Int.toNat_of_nonneg h0] at this)
attribute [go_sem] w_natOf
theorem w_natAdd {a b : Nat} (ha : (enc B32 a).length ≤ 1099511627776) (hb : (enc B32 b).length ≤ 1099511627776) : CW Tryz.prog 74 [natI a, natI b] (natI (a + b)) := cw (by kernel_rfl) (by simp [AV.pure, AV.pureL]) (by simp [AV.pure, AV.pureL]) (i_addTo a b ha hb)
attribute [go_sem] w_natAdd
theorem w_natMul {a b : Nat} (ha : (enc B32 a).length ≤ 1099511627776) (hb : (enc B32 b).length ≤ 1099511627776) : CW Tryz.prog 53 [natI a, natI b] (natI (a * b)) := cw (by kernel_rfl) (by simp [AV.pure, AV.pureL]) (by simp [AV.pure, AV.pureL]) (i_mul a b ha hb)
attribute [go_sem] w_natMul
theorem w_natCmp {a b : Nat} (ha : (enc B32 a).length < 9223372036854775808) (hb : (enc B32 b).length < 9223372036854775808) : CW Tryz.prog 54 [natI a, natI b] (.int .i64 (cmpI a b)) := cw (by kernel_rfl) (by simp [AV.pure, AV.pureL]) (by simp [AV.pure, AV.pureL]) (i_Cmp a b ha hb)
attribute [go_sem] w_natCmp
theorem w_natDiv {a b : Nat} (ha : (enc B32 a).length ≤ 1099511627775) (hb0 : b ≠ 0) (hb : (enc B32 b).length ≤ 1099511627775) : CW Tryz.prog 85 [natI a, natI b] (.tup [natI (a / b), natI (a % b)]) := cw (by kernel_rfl) (by simp [AV.pure, AV.pureL]) (by simp [AV.pure, AV.pureL]) (i_div a b ha hb0 hb)
attribute [go_sem] w_natDiv
theorem w_natGcd {a b : Nat} (ha : (enc B32 a).length ≤ 1099511627775) (hb : (enc B32 b).length ≤ 1099511627775) : CW Tryz.prog 72 [natI a, natI b] (natI (Nat.gcd a b)) := cw (by kernel_rfl) (by simp [AV.pure, AV.pureL]) (by simp [AV.pure, AV.pureL]) (i_gcd a b ha hb)
attribute [go_sem] w_natGcd
end Go.Proofs.YtdljcbbodihagaaGreatDoor
