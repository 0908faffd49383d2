/- Part 8 of the ground of the proofs of this seat. -/
import Derived.Test.YtmlbjakkojbdlaaGreatDoorM7

set_option linter.unusedVariables false
set_option linter.unusedSimpArgs false
set_option maxRecDepth 100000
namespace Go.Proofs.YtmlbjakkojbdlaaGreatDoor
open Go

theorem ci_readRat : callable Tryz.prog 45 = true := by kernel_rfl
def firstQ (s : List UInt8) : List UInt8 := match findB 47 s with | some i => s.take i | none => s
def digsQ (s : List UInt8) : List UInt8 := if headB 45 (firstQ s) = true then (firstQ s).tail else firstQ s
def parseQ (s : List UInt8) : Option (Bool × Nat × Nat) :=
 if tokD (digsQ s) = true ∧ ¬ (headB 45 (firstQ s) = true ∧ dval (digsQ s) = 0) then
  match findB 47 s with
  | none => some (headB 45 (firstQ s), dval (digsQ s), 1)
  | some i => if tokD (s.drop (i + 1)) = true ∧ 1 < dval (s.drop (i + 1)) ∧ Nat.gcd (dval (digsQ s)) (dval (s.drop (i + 1))) = 1 then some (headB 45 (firstQ s), dval (digsQ s), dval (s.drop (i + 1))) else none
 else none
def ratI (q : Bool × Nat × Nat) : AV := .agg [.bool q.1, natI q.2.1, natI q.2.2]
def zrI : AV := .agg [.bool false, .nil, .nil]
@[simp] theorem ratI_pure (q : Bool × Nat × Nat) : (ratI q).pure = true := by simp [ratI, AV.pure, AV.pureL]
def readRatV (s : List UInt8) : AV := match parseQ s with | some q => .tup [ratI q, .bool true] | none => .tup [zrI, .bool false]
theorem post_cell {P : Program} {fn : Func} {n0 : Nat} {fl : Bool} {t u : Tmp} {T id : Nat} {x r s : AV} {st : St} {e : Ex} (he : e = .ret ∨ e = .normal) (hr : fn.results.toList = [.cell t T, .tmp u]) (hok : okT P T = true) (hv : st.fr t = .ptr id 1 0 0) (hlv : (st.h id).lv = true) (hx : (st.h id).xs = [x])
  (hl : ldA P T x 0 = some r) (hw : st.fr u = s) (hp : r.pure = true) (hq : s.pure = true) : Post P fn n0 fl false (.tup [r, s]) [] e st := by
 refine ⟨by rcases he with rfl | rfl <;> trivial, .tup [r, s], by rw [hr]; simp [resV, resL, resA, hv, hw, hok, loadA, hlv, hx, hl], [], ?_, .inl rfl⟩
 simp only [Bool.false_eq_true, if_false]
 exact ⟨snapA_pure (by simp [AV.pure, AV.pureL, hp, hq]), by simp⟩
theorem el_iRat {b : Bool} {m n : Nat} : AV.el Tryz.prog 53 (.agg [.bool b, natI m, natI n]) = true := by simp [AV.el, s_iRat, AV.cells, AV.one, natI]
theorem el_iRat0 {b : Bool} : AV.el Tryz.prog 53 (.agg [.bool b, .nil, .nil]) = true := by simp [AV.el, s_iRat, AV.cells, AV.one]
theorem el_boolT {b : Bool} : AV.el Tryz.prog 4 (.bool b) = true := by simp [AV.el, s_bool, AV.cells, AV.one]
theorem ld_iRat {b c d : AV} : ldA Tryz.prog 53 (.agg [b, c, d]) 0 = some (.agg [b, c, d]) := by simp [ldA, partA, g_iRat, s_iRat, AV.cells]
theorem el_iRatS {b : Bool} {t t' : Nat} {xs sp xs' sp' : List AV} {ex ex' : Bool} : AV.el Tryz.prog 53 (.agg [.bool b, .sl t xs sp ex, .sl t' xs' sp' ex']) = true := by simp [AV.el, s_iRat, AV.cells, AV.one]
theorem el_natS {t : Nat} {xs sp : List AV} {ex : Bool} : AV.el Tryz.prog 51 (.sl t xs sp ex) = true := by simp [AV.el, s_nat, AV.cells, AV.one]
attribute [go_sem] el_iRat el_iRat0 el_boolT ld_iRat el_iRatS el_natS

theorem i_readRat (s : List UInt8) (hs : s.length < 9223372036854775808) : CallOk Tryz.prog 45 [.str s] (readRatV s) [] := by
  have hCut := g_Cut s 47 hs
  have hfl : (firstQ s).length ≤ s.length := by unfold firstQ; split <;> simp; omega
  have hPre := g_CutPrefix (firstQ s) 45 (by omega)
  have hdl : (digsQ s).length ≤ s.length := by
    unfold digsQ; split
    · simp; omega
    · exact hfl
  have hN1 := i_readNat (digsQ s) (by omega)
  rw [show (if headB 45 (firstQ s) = true then (firstQ s).tail else firstQ s) = digsQ s from rfl] at hPre
  have hfail : ∀ (st : St), st.fr 2 = .ptr 0 1 0 0 → (st.h 0).lv = true → (st.h 0).xs = [zrI] → st.fr 3 = .bool false → parseQ s = none → Post Tryz.prog Tryz.f45 (matL false [AV.str s] st00).2.nx (AV.flatL [AV.str s]) false (readRatV s) [] .ret st := by
    intro st k2 kl kx k3 hp
    rw [readRatV, hp]
    exact post_cell (x := zrI) (.inl rfl) rfl o_iRat k2 kl kx ld_iRat k3 rfl rfl
  have hgood : ∀ (st : St) (q : Bool × Nat × Nat), st.fr 2 = .ptr 0 1 0 0 → (st.h 0).lv = true → (st.h 0).xs = [ratI q] → st.fr 3 = .bool true → parseQ s = some q → Post Tryz.prog Tryz.f45 (matL false [AV.str s] st00).2.nx (AV.flatL [AV.str s]) false (readRatV s) [] .ret st := by
    intro st q k2 kl kx k3 hp
    rw [readRatV, hp]
    exact post_cell (x := ratI q) (.inl rfl) rfl o_iRat k2 kl kx ld_iRat k3 (by simp) rfl
  have hone := i_natOf 1 (by omega)
  have e0 : [AV.bool false, AV.nil, AV.nil].length = 3 := rfl
  obtain ⟨second, isS, hCut', hsec⟩ : ∃ (second : List UInt8) (isS : Bool), CallOk Tryz.prog 78 [.str s, .str [47]] (.tup [.str (firstQ s), .str second, .bool isS]) [] ∧ ((isS = false ∧ findB 47 s = none) ∨ ∃ i, isS = true ∧ findB 47 s = some i ∧ second = s.drop (i + 1)) := by
    unfold cutV at hCut
    cases hf : findB 47 s with
    | none => simp only [hf] at hCut; exact ⟨[], false, by simpa [firstQ, hf] using hCut, .inl ⟨rfl, rfl⟩⟩
    | some i => simp only [hf] at hCut; exact ⟨_, true, by simpa [firstQ, hf] using hCut, .inr ⟨i, rfl, rfl, rfl⟩⟩
  have hsl : second.length ≤ s.length ∨ isS = false := by
    rcases hsec with ⟨h, _⟩ | ⟨i, _, _, rfl⟩
    · exact .inr h
    · left; simp
  have htk : tokD (digsQ s) = true → (enc B32 (dval (digsQ s))).length ≤ 200 := fun h => by
    obtain ⟨_, b, c⟩ := tok_len h
    exact Nat.le_trans (dval_enc (by decide) c) b
  obtain ⟨neg, hneg⟩ : ∃ neg, headB 45 (firstQ s) = neg := ⟨_, rfl⟩
  obtain ⟨fs, hfs⟩ : ∃ fs, firstQ s = fs := ⟨_, rfl⟩
  have hpq : parseQ s = if tokD (digsQ s) = true ∧ ¬ (neg = true ∧ dval (digsQ s) = 0) then
    match findB 47 s with
    | none => some (neg, dval (digsQ s), 1)
    | some i => if tokD (s.drop (i + 1)) = true ∧ 1 < dval (s.drop (i + 1)) ∧ Nat.gcd (dval (digsQ s)) (dval (s.drop (i + 1))) = 1 then some (neg, dval (digsQ s), dval (s.drop (i + 1))) else none
  else none := by rw [parseQ, hneg]
  obtain ⟨D, hD⟩ : ∃ D, digsQ s = D := ⟨_, rfl⟩
  rw [hD] at hPre hN1 htk hpq
  rw [hneg, hfs] at hPre
  rw [hfs] at hCut'
  clear hCut hfl hdl hneg
  cases htd : tokD D with
  | false =>
    rw [htd] at hpq
    simp only [Bool.false_eq_true, false_and, if_false] at hpq
    simp only [readNatV, htd, Bool.false_eq_true, if_false] at hN1
    (refine callOk_of_wpc (W := fun _ => false) false hm' Tryz.func45 rfl (by kernel_rfl) (Nat.le_of_ble_eq_true rfl) (go_start ?_); generalize hQ : Post Tryz.prog Tryz.f45 _ _ _ _ _ = Q; simp only [stIn, matL, matA, st00])
    simp (disch := omega) only [go_sem, ↓k_cond, ↓x_idx, ↓k_block, Nat.reduceEqDiff, Nat.reduceBEq, ↓reduceIte, reduceCtorEq, zrI, e0]
    refine x_callP (hCut') c_Cut (by simp [evA, upd_app, ofVal, ofCell]) (by simp [AV.pure, AV.pureL, natA_pure, natI_pure, natS_pure]) (by simp [AV.pure, AV.pureL, natA_pure, natI_pure, natS_pure]) ?_
    simp (disch := omega) only [go_sem, ↓k_cond, ↓x_idx, ↓k_block, Nat.reduceEqDiff, Nat.reduceBEq, ↓reduceIte, reduceCtorEq, natI]
    refine x_callP (hPre) c_CutPrefix (by simp [evA, upd_app, ofVal, ofCell]) (by simp [AV.pure, AV.pureL, natA_pure, natI_pure, natS_pure]) (by simp [AV.pure, AV.pureL, natA_pure, natI_pure, natS_pure]) ?_
    simp (disch := omega) only [go_sem, ↓k_cond, ↓x_idx, ↓k_block, Nat.reduceEqDiff, Nat.reduceBEq, ↓reduceIte, reduceCtorEq, natI]
    refine x_callP (hN1) ci_readNat (by simp [evA, upd_app, ofVal, ofCell]) (by simp [AV.pure, AV.pureL, natA_pure, natI_pure, natS_pure]) (by simp [AV.pure, AV.pureL, natA_pure, natI_pure, natS_pure]) ?_
    simp (disch := omega) only [go_sem, ↓k_cond, ↓x_idx, ↓k_block, Nat.reduceEqDiff, Nat.reduceBEq, ↓reduceIte, reduceCtorEq, e0, natI]
    rw [← hQ]
    exact hfail _ (by simp [upd_app] <;> omega) (by simp [upd_app]) (by simp [upd_app, zrI]) (by simp [upd_app] <;> omega) hpq
  | true =>
    have htl := htk htd
    simp only [readNatV, htd, if_true] at hN1
    rw [htd] at hpq
    simp only [true_and] at hpq
    obtain ⟨v, hv⟩ : ∃ v, dval D = v := ⟨_, rfl⟩
    rw [hv] at hN1 hpq htl
    by_cases hnz : neg = true ∧ v = 0
    · obtain ⟨rfl, rfl⟩ := hnz
      simp only [and_self, not_true_eq_false, if_false] at hpq
      have hz : natI 0 = .sl 128 [] [] false := by simp [natI, enc_zero, natA]
      rw [hz] at hN1
      (refine callOk_of_wpc (W := fun _ => false) false hm' Tryz.func45 rfl (by kernel_rfl) (Nat.le_of_ble_eq_true rfl) (go_start ?_); generalize hQ : Post Tryz.prog Tryz.f45 _ _ _ _ _ = Q; simp only [stIn, matL, matA, st00])
      simp (disch := omega) only [go_sem, ↓k_cond, ↓x_idx, ↓k_block, Nat.reduceEqDiff, Nat.reduceBEq, ↓reduceIte, reduceCtorEq, zrI, e0]
      refine x_callP (hCut') c_Cut (by simp [evA, upd_app, ofVal, ofCell]) (by simp [AV.pure, AV.pureL, natA_pure, natI_pure, natS_pure]) (by simp [AV.pure, AV.pureL, natA_pure, natI_pure, natS_pure]) ?_
      simp (disch := omega) only [go_sem, ↓k_cond, ↓x_idx, ↓k_block, Nat.reduceEqDiff, Nat.reduceBEq, ↓reduceIte, reduceCtorEq, natI]
      refine x_callP (hPre) c_CutPrefix (by simp [evA, upd_app, ofVal, ofCell]) (by simp [AV.pure, AV.pureL, natA_pure, natI_pure, natS_pure]) (by simp [AV.pure, AV.pureL, natA_pure, natI_pure, natS_pure]) ?_
      simp (disch := omega) only [go_sem, ↓k_cond, ↓x_idx, ↓k_block, Nat.reduceEqDiff, Nat.reduceBEq, ↓reduceIte, reduceCtorEq, natI]
      refine x_callP (hN1) ci_readNat (by simp [evA, upd_app, ofVal, ofCell]) (by simp [AV.pure, AV.pureL, natA_pure, natI_pure, natS_pure]) (by simp [AV.pure, AV.pureL, natA_pure, natI_pure, natS_pure]) ?_
      simp (disch := omega) only [go_sem, ↓k_cond, ↓x_idx, ↓k_block, Nat.reduceEqDiff, Nat.reduceBEq, ↓reduceIte, reduceCtorEq, e0, List.length_nil]
      rw [← hQ]
      exact hfail _ (by simp [upd_app] <;> omega) (by simp [upd_app]) (by simp [upd_app, zrI]) (by simp [upd_app] <;> omega) hpq
    · rw [if_pos hnz] at hpq
      have hvl : neg = true → 0 < (enc B32 v).length := fun h => enc_len_pos B32_gt (fun h0 => hnz ⟨h, h0⟩)
      have hzero : ∀ n : Nat, AV.el Tryz.prog 53 (.agg [.bool neg, natI v, natI n]) = true := fun n => el_iRat
      rcases hsec with ⟨rfl, hf⟩ | ⟨i, rfl, hf, rfl⟩
      · rw [hf] at hpq
        simp only at hpq
        cases neg with
        | false =>
          (refine callOk_of_wpc (W := fun _ => false) false hm' Tryz.func45 rfl (by kernel_rfl) (Nat.le_of_ble_eq_true rfl) (go_start ?_); generalize hQ : Post Tryz.prog Tryz.f45 _ _ _ _ _ = Q; simp only [stIn, matL, matA, st00])
          simp (disch := omega) only [go_sem, ↓k_cond, ↓x_idx, ↓k_block, Nat.reduceEqDiff, Nat.reduceBEq, ↓reduceIte, reduceCtorEq, zrI, e0]
          refine x_callP (hCut') c_Cut (by simp [evA, upd_app, ofVal, ofCell]) (by simp [AV.pure, AV.pureL, natA_pure, natI_pure, natS_pure]) (by simp [AV.pure, AV.pureL, natA_pure, natI_pure, natS_pure]) ?_
          simp (disch := omega) only [go_sem, ↓k_cond, ↓x_idx, ↓k_block, Nat.reduceEqDiff, Nat.reduceBEq, ↓reduceIte, reduceCtorEq, natI]
          refine x_callP (hPre) c_CutPrefix (by simp [evA, upd_app, ofVal, ofCell]) (by simp [AV.pure, AV.pureL, natA_pure, natI_pure, natS_pure]) (by simp [AV.pure, AV.pureL, natA_pure, natI_pure, natS_pure]) ?_
          simp (disch := omega) only [go_sem, ↓k_cond, ↓x_idx, ↓k_block, Nat.reduceEqDiff, Nat.reduceBEq, ↓reduceIte, reduceCtorEq, natI]
          refine x_callP (hN1) ci_readNat (by simp [evA, upd_app, ofVal, ofCell]) (by simp [AV.pure, AV.pureL, natA_pure, natI_pure, natS_pure]) (by simp [AV.pure, AV.pureL, natA_pure, natI_pure, natS_pure]) ?_
          simp (disch := omega) only [go_sem, ↓k_cond, ↓x_idx, ↓k_block, Nat.reduceEqDiff, Nat.reduceBEq, ↓reduceIte, reduceCtorEq, natI]
          refine x_callP hone ci_natOf (by simp [evA, upd_app, ofVal, ofCell]) (by simp [AV.pure, AV.pureL]) (by simp) ?_
          simp (disch := omega) only [go_sem, ↓k_cond, ↓x_idx, ↓k_block, Nat.reduceEqDiff, Nat.reduceBEq, ↓reduceIte, reduceCtorEq, e0, natI, List.take_succ_cons, List.take_zero, ld_iRat]
          rw [← hQ]
          refine hgood _ (_, v, 1) ?_ ?_ ?_ ?_ hpq
          · exact (by simp [upd_app] <;> omega)
          · simp [upd_app]
          · simp only [upd_app, ↓reduceIte, ratI, natI]
          · exact (by simp [upd_app] <;> omega)
        | true =>
          have hvl' := hvl rfl
          (refine callOk_of_wpc (W := fun _ => false) false hm' Tryz.func45 rfl (by kernel_rfl) (Nat.le_of_ble_eq_true rfl) (go_start ?_); generalize hQ : Post Tryz.prog Tryz.f45 _ _ _ _ _ = Q; simp only [stIn, matL, matA, st00])
          simp (disch := omega) only [go_sem, ↓k_cond, ↓x_idx, ↓k_block, Nat.reduceEqDiff, Nat.reduceBEq, ↓reduceIte, reduceCtorEq, zrI, e0]
          refine x_callP (hCut') c_Cut (by simp [evA, upd_app, ofVal, ofCell]) (by simp [AV.pure, AV.pureL, natA_pure, natI_pure, natS_pure]) (by simp [AV.pure, AV.pureL, natA_pure, natI_pure, natS_pure]) ?_
          simp (disch := omega) only [go_sem, ↓k_cond, ↓x_idx, ↓k_block, Nat.reduceEqDiff, Nat.reduceBEq, ↓reduceIte, reduceCtorEq, natI]
          refine x_callP (hPre) c_CutPrefix (by simp [evA, upd_app, ofVal, ofCell]) (by simp [AV.pure, AV.pureL, natA_pure, natI_pure, natS_pure]) (by simp [AV.pure, AV.pureL, natA_pure, natI_pure, natS_pure]) ?_
          simp (disch := omega) only [go_sem, ↓k_cond, ↓x_idx, ↓k_block, Nat.reduceEqDiff, Nat.reduceBEq, ↓reduceIte, reduceCtorEq, natI]
          refine x_callP (hN1) ci_readNat (by simp [evA, upd_app, ofVal, ofCell]) (by simp [AV.pure, AV.pureL, natA_pure, natI_pure, natS_pure]) (by simp [AV.pure, AV.pureL, natA_pure, natI_pure, natS_pure]) ?_
          simp (disch := omega) only [go_sem, ↓k_cond, ↓x_idx, ↓k_block, Nat.reduceEqDiff, Nat.reduceBEq, ↓reduceIte, reduceCtorEq, natI]
          refine x_callP hone ci_natOf (by simp [evA, upd_app, ofVal, ofCell]) (by simp [AV.pure, AV.pureL]) (by simp) ?_
          simp (disch := omega) only [go_sem, ↓k_cond, ↓x_idx, ↓k_block, Nat.reduceEqDiff, Nat.reduceBEq, ↓reduceIte, reduceCtorEq, e0, natI, List.take_succ_cons, List.take_zero, ld_iRat]
          rw [← hQ]
          refine hgood _ (_, v, 1) ?_ ?_ ?_ ?_ hpq
          · exact (by simp [upd_app] <;> omega)
          · simp [upd_app]
          · simp only [upd_app, ↓reduceIte, ratI, natI]
          · exact (by simp [upd_app] <;> omega)
      · rw [hf] at hpq
        simp only at hpq
        have hsl' : (s.drop (i + 1)).length ≤ s.length := by simp
        have hN2 := i_readNat (s.drop (i + 1)) (by omega)
        have htk2 : tokD (s.drop (i + 1)) = true → (enc B32 (dval (s.drop (i + 1)))).length ≤ 200 := fun h => by
          obtain ⟨_, b, c⟩ := tok_len h
          exact Nat.le_trans (dval_enc (by decide) c) b
        have he1 : (enc B32 1).length ≤ 1 := enc_len_le B32_gt (by decide)
        rcases Bool.eq_false_or_eq_true neg with rfl | rfl
        · have hvl' := hvl rfl
          cases hte : tokD (s.drop (i + 1)) with
          | false =>
            simp only [hte, Bool.false_eq_true, false_and, if_false] at hpq
            simp only [readNatV, hte, Bool.false_eq_true, if_false] at hN2
            (refine callOk_of_wpc (W := fun _ => false) false hm' Tryz.func45 rfl (by kernel_rfl) (Nat.le_of_ble_eq_true rfl) (go_start ?_); generalize hQ : Post Tryz.prog Tryz.f45 _ _ _ _ _ = Q; simp only [stIn, matL, matA, st00])
            simp (disch := omega) only [go_sem, ↓k_cond, ↓x_idx, ↓k_block, Nat.reduceEqDiff, Nat.reduceBEq, ↓reduceIte, reduceCtorEq, zrI, e0]
            refine x_callP (hCut') c_Cut (by simp [evA, upd_app, ofVal, ofCell]) (by simp [AV.pure, AV.pureL, natA_pure, natI_pure, natS_pure]) (by simp [AV.pure, AV.pureL, natA_pure, natI_pure, natS_pure]) ?_
            simp (disch := omega) only [go_sem, ↓k_cond, ↓x_idx, ↓k_block, Nat.reduceEqDiff, Nat.reduceBEq, ↓reduceIte, reduceCtorEq, natI]
            refine x_callP (hPre) c_CutPrefix (by simp [evA, upd_app, ofVal, ofCell]) (by simp [AV.pure, AV.pureL, natA_pure, natI_pure, natS_pure]) (by simp [AV.pure, AV.pureL, natA_pure, natI_pure, natS_pure]) ?_
            simp (disch := omega) only [go_sem, ↓k_cond, ↓x_idx, ↓k_block, Nat.reduceEqDiff, Nat.reduceBEq, ↓reduceIte, reduceCtorEq, natI]
            refine x_callP (hN1) ci_readNat (by simp [evA, upd_app, ofVal, ofCell]) (by simp [AV.pure, AV.pureL, natA_pure, natI_pure, natS_pure]) (by simp [AV.pure, AV.pureL, natA_pure, natI_pure, natS_pure]) ?_
            simp (disch := omega) only [go_sem, ↓k_cond, ↓x_idx, ↓k_block, Nat.reduceEqDiff, Nat.reduceBEq, ↓reduceIte, reduceCtorEq, natI]
            refine x_callP hone ci_natOf (by simp [evA, upd_app, ofVal, ofCell]) (by simp [AV.pure, AV.pureL]) (by simp) ?_
            simp (disch := omega) only [go_sem, ↓k_cond, ↓x_idx, ↓k_block, Nat.reduceEqDiff, Nat.reduceBEq, ↓reduceIte, reduceCtorEq, e0, natI]
            refine x_callP (hN2) ci_readNat (by simp [evA, upd_app, ofVal, ofCell]) (by simp [AV.pure, AV.pureL, natA_pure, natI_pure, natS_pure]) (by simp [AV.pure, AV.pureL, natA_pure, natI_pure, natS_pure]) ?_
            simp (disch := omega) only [go_sem, ↓k_cond, ↓x_idx, ↓k_block, Nat.reduceEqDiff, Nat.reduceBEq, ↓reduceIte, reduceCtorEq, e0, natI]
            rw [← hQ]
            exact hfail _ (by simp [upd_app] <;> omega) (by simp [upd_app]) (by simp [upd_app, zrI]) (by simp [upd_app] <;> omega) hpq
          | true =>
            have htl2 := htk2 hte
            simp only [hte, true_and] at hpq
            simp only [readNatV, hte, if_true] at hN2
            obtain ⟨u, hu⟩ : ∃ u, dval (s.drop (i + 1)) = u := ⟨_, rfl⟩
            rw [hu] at hN2 hpq htl2
            have hcmp := i_Cmp u 1 (by omega) (by omega)
            have hgcd := i_gcd v u (by omega) (by omega)
            by_cases hu1 : 1 < u
            · have hc1 : cmpI u 1 = 1 := cmpI_gt hu1
              rw [hc1] at hcmp
              obtain ⟨g, hg⟩ : ∃ g, Nat.gcd v u = g := ⟨_, rfl⟩
              rw [hg] at hgcd
              simp only [hg] at hpq
              have hgu : g ≤ u := by rw [← hg]; exact Nat.gcd_le_right v (by omega)
              have hgl := enc_len_mono B32_gt hgu
              have hcg := i_Cmp g 1 (by omega) (by omega)
              by_cases hg1 : g = 1
              · subst hg1
                rw [cmpI_eq] at hcg
                simp only [hu1, and_self, if_true] at hpq
                (refine callOk_of_wpc (W := fun _ => false) false hm' Tryz.func45 rfl (by kernel_rfl) (Nat.le_of_ble_eq_true rfl) (go_start ?_); generalize hQ : Post Tryz.prog Tryz.f45 _ _ _ _ _ = Q; simp only [stIn, matL, matA, st00])
                simp (disch := omega) only [go_sem, ↓k_cond, ↓x_idx, ↓k_block, Nat.reduceEqDiff, Nat.reduceBEq, ↓reduceIte, reduceCtorEq, zrI, e0]
                refine x_callP (hCut') c_Cut (by simp [evA, upd_app, ofVal, ofCell]) (by simp [AV.pure, AV.pureL, natA_pure, natI_pure, natS_pure]) (by simp [AV.pure, AV.pureL, natA_pure, natI_pure, natS_pure]) ?_
                simp (disch := omega) only [go_sem, ↓k_cond, ↓x_idx, ↓k_block, Nat.reduceEqDiff, Nat.reduceBEq, ↓reduceIte, reduceCtorEq, natI]
                refine x_callP (hPre) c_CutPrefix (by simp [evA, upd_app, ofVal, ofCell]) (by simp [AV.pure, AV.pureL, natA_pure, natI_pure, natS_pure]) (by simp [AV.pure, AV.pureL, natA_pure, natI_pure, natS_pure]) ?_
                simp (disch := omega) only [go_sem, ↓k_cond, ↓x_idx, ↓k_block, Nat.reduceEqDiff, Nat.reduceBEq, ↓reduceIte, reduceCtorEq, natI]
                refine x_callP (hN1) ci_readNat (by simp [evA, upd_app, ofVal, ofCell]) (by simp [AV.pure, AV.pureL, natA_pure, natI_pure, natS_pure]) (by simp [AV.pure, AV.pureL, natA_pure, natI_pure, natS_pure]) ?_
                simp (disch := omega) only [go_sem, ↓k_cond, ↓x_idx, ↓k_block, Nat.reduceEqDiff, Nat.reduceBEq, ↓reduceIte, reduceCtorEq, natI]
                refine x_callP hone ci_natOf (by simp [evA, upd_app, ofVal, ofCell]) (by simp [AV.pure, AV.pureL]) (by simp) ?_
                simp (disch := omega) only [go_sem, ↓k_cond, ↓x_idx, ↓k_block, Nat.reduceEqDiff, Nat.reduceBEq, ↓reduceIte, reduceCtorEq, e0, natI]
                refine x_callP (hN2) ci_readNat (by simp [evA, upd_app, ofVal, ofCell]) (by simp [AV.pure, AV.pureL, natA_pure, natI_pure, natS_pure]) (by simp [AV.pure, AV.pureL, natA_pure, natI_pure, natS_pure]) ?_
                simp (disch := omega) only [go_sem, ↓k_cond, ↓x_idx, ↓k_block, Nat.reduceEqDiff, Nat.reduceBEq, ↓reduceIte, reduceCtorEq, natI]
                refine x_callP hone ci_natOf (by simp [evA, upd_app, ofVal, ofCell]) (by simp [AV.pure, AV.pureL]) (by simp) ?_
                simp (disch := omega) only [go_sem, ↓k_cond, ↓x_idx, ↓k_block, Nat.reduceEqDiff, Nat.reduceBEq, ↓reduceIte, reduceCtorEq, natI]
                refine x_callP hcmp ci_cmp (by simp [evA, upd_app, natI]) (by simp [AV.pureL]) rfl ?_
                simp (disch := omega) only [go_sem, ↓k_cond, ↓x_idx, ↓k_block, Nat.reduceEqDiff, Nat.reduceBEq, ↓reduceIte, reduceCtorEq, natI]
                refine x_callP hgcd ci_gcd (by simp [evA, upd_app, natI]) (by simp [AV.pureL]) (by simp) ?_
                simp (disch := omega) only [go_sem, ↓k_cond, ↓x_idx, ↓k_block, Nat.reduceEqDiff, Nat.reduceBEq, ↓reduceIte, reduceCtorEq, natI]
                refine x_callP hone ci_natOf (by simp [evA, upd_app, ofVal, ofCell]) (by simp [AV.pure, AV.pureL]) (by simp) ?_
                refine x_callP hcg ci_cmp (by simp [evA, upd_app, natI]) (by simp [AV.pureL]) rfl ?_
                simp (disch := omega) only [go_sem, ↓k_cond, ↓x_idx, ↓k_block, Nat.reduceEqDiff, Nat.reduceBEq, ↓reduceIte, reduceCtorEq, e0, natI]
                rw [← hQ]
                refine hgood _ (_, v, u) ?_ ?_ ?_ ?_ hpq
                · exact (by simp [upd_app] <;> omega)
                · simp [upd_app]
                · simp only [upd_app, ↓reduceIte, ratI, natI]
                · exact (by simp [upd_app] <;> omega)
              · have hcn : cmpI g 1 ≠ 0 := by
                  rcases Nat.lt_trichotomy g 1 with h | h | h
                  · rw [cmpI_lt h]; decide
                  · exact absurd h hg1
                  · rw [cmpI_gt h]; decide
                rw [if_neg (fun h => hg1 h.2)] at hpq
                (refine callOk_of_wpc (W := fun _ => false) false hm' Tryz.func45 rfl (by kernel_rfl) (Nat.le_of_ble_eq_true rfl) (go_start ?_); generalize hQ : Post Tryz.prog Tryz.f45 _ _ _ _ _ = Q; simp only [stIn, matL, matA, st00])
                simp (disch := omega) only [go_sem, ↓k_cond, ↓x_idx, ↓k_block, Nat.reduceEqDiff, Nat.reduceBEq, ↓reduceIte, reduceCtorEq, zrI, e0]
                refine x_callP (hCut') c_Cut (by simp [evA, upd_app, ofVal, ofCell]) (by simp [AV.pure, AV.pureL, natA_pure, natI_pure, natS_pure]) (by simp [AV.pure, AV.pureL, natA_pure, natI_pure, natS_pure]) ?_
                simp (disch := omega) only [go_sem, ↓k_cond, ↓x_idx, ↓k_block, Nat.reduceEqDiff, Nat.reduceBEq, ↓reduceIte, reduceCtorEq, natI]
                refine x_callP (hPre) c_CutPrefix (by simp [evA, upd_app, ofVal, ofCell]) (by simp [AV.pure, AV.pureL, natA_pure, natI_pure, natS_pure]) (by simp [AV.pure, AV.pureL, natA_pure, natI_pure, natS_pure]) ?_
                simp (disch := omega) only [go_sem, ↓k_cond, ↓x_idx, ↓k_block, Nat.reduceEqDiff, Nat.reduceBEq, ↓reduceIte, reduceCtorEq, natI]
                refine x_callP (hN1) ci_readNat (by simp [evA, upd_app, ofVal, ofCell]) (by simp [AV.pure, AV.pureL, natA_pure, natI_pure, natS_pure]) (by simp [AV.pure, AV.pureL, natA_pure, natI_pure, natS_pure]) ?_
                simp (disch := omega) only [go_sem, ↓k_cond, ↓x_idx, ↓k_block, Nat.reduceEqDiff, Nat.reduceBEq, ↓reduceIte, reduceCtorEq, natI]
                refine x_callP hone ci_natOf (by simp [evA, upd_app, ofVal, ofCell]) (by simp [AV.pure, AV.pureL]) (by simp) ?_
                simp (disch := omega) only [go_sem, ↓k_cond, ↓x_idx, ↓k_block, Nat.reduceEqDiff, Nat.reduceBEq, ↓reduceIte, reduceCtorEq, e0, natI]
                refine x_callP (hN2) ci_readNat (by simp [evA, upd_app, ofVal, ofCell]) (by simp [AV.pure, AV.pureL, natA_pure, natI_pure, natS_pure]) (by simp [AV.pure, AV.pureL, natA_pure, natI_pure, natS_pure]) ?_
                simp (disch := omega) only [go_sem, ↓k_cond, ↓x_idx, ↓k_block, Nat.reduceEqDiff, Nat.reduceBEq, ↓reduceIte, reduceCtorEq, natI]
                refine x_callP hone ci_natOf (by simp [evA, upd_app, ofVal, ofCell]) (by simp [AV.pure, AV.pureL]) (by simp) ?_
                simp (disch := omega) only [go_sem, ↓k_cond, ↓x_idx, ↓k_block, Nat.reduceEqDiff, Nat.reduceBEq, ↓reduceIte, reduceCtorEq, natI]
                refine x_callP hcmp ci_cmp (by simp [evA, upd_app, natI]) (by simp [AV.pureL]) rfl ?_
                simp (disch := omega) only [go_sem, ↓k_cond, ↓x_idx, ↓k_block, Nat.reduceEqDiff, Nat.reduceBEq, ↓reduceIte, reduceCtorEq, natI]
                refine x_callP hgcd ci_gcd (by simp [evA, upd_app, natI]) (by simp [AV.pureL]) (by simp) ?_
                simp (disch := omega) only [go_sem, ↓k_cond, ↓x_idx, ↓k_block, Nat.reduceEqDiff, Nat.reduceBEq, ↓reduceIte, reduceCtorEq, natI]
                refine x_callP hone ci_natOf (by simp [evA, upd_app, ofVal, ofCell]) (by simp [AV.pure, AV.pureL]) (by simp) ?_
                refine x_callP hcg ci_cmp (by simp [evA, upd_app, natI]) (by simp [AV.pureL]) rfl ?_
                simp (disch := omega) only [go_sem, ↓k_cond, ↓x_idx, ↓k_block, Nat.reduceEqDiff, Nat.reduceBEq, ↓reduceIte, reduceCtorEq, e0, natI]
                rw [← hQ]
                exact hfail _ (by simp [upd_app] <;> omega) (by simp [upd_app]) (by simp [upd_app, zrI]) (by simp [upd_app] <;> omega) hpq
            · have hc1 : cmpI u 1 ≤ 0 := by
                rcases Nat.lt_or_ge u 1 with h | h
                · rw [cmpI_lt h]; decide
                · rw [show u = 1 by omega, cmpI_eq]; decide
              rw [if_neg (fun h => hu1 h.1)] at hpq
              (refine callOk_of_wpc (W := fun _ => false) false hm' Tryz.func45 rfl (by kernel_rfl) (Nat.le_of_ble_eq_true rfl) (go_start ?_); generalize hQ : Post Tryz.prog Tryz.f45 _ _ _ _ _ = Q; simp only [stIn, matL, matA, st00])
              simp (disch := omega) only [go_sem, ↓k_cond, ↓x_idx, ↓k_block, Nat.reduceEqDiff, Nat.reduceBEq, ↓reduceIte, reduceCtorEq, zrI, e0]
              refine x_callP (hCut') c_Cut (by simp [evA, upd_app, ofVal, ofCell]) (by simp [AV.pure, AV.pureL, natA_pure, natI_pure, natS_pure]) (by simp [AV.pure, AV.pureL, natA_pure, natI_pure, natS_pure]) ?_
              simp (disch := omega) only [go_sem, ↓k_cond, ↓x_idx, ↓k_block, Nat.reduceEqDiff, Nat.reduceBEq, ↓reduceIte, reduceCtorEq, natI]
              refine x_callP (hPre) c_CutPrefix (by simp [evA, upd_app, ofVal, ofCell]) (by simp [AV.pure, AV.pureL, natA_pure, natI_pure, natS_pure]) (by simp [AV.pure, AV.pureL, natA_pure, natI_pure, natS_pure]) ?_
              simp (disch := omega) only [go_sem, ↓k_cond, ↓x_idx, ↓k_block, Nat.reduceEqDiff, Nat.reduceBEq, ↓reduceIte, reduceCtorEq, natI]
              refine x_callP (hN1) ci_readNat (by simp [evA, upd_app, ofVal, ofCell]) (by simp [AV.pure, AV.pureL, natA_pure, natI_pure, natS_pure]) (by simp [AV.pure, AV.pureL, natA_pure, natI_pure, natS_pure]) ?_
              simp (disch := omega) only [go_sem, ↓k_cond, ↓x_idx, ↓k_block, Nat.reduceEqDiff, Nat.reduceBEq, ↓reduceIte, reduceCtorEq, natI]
              refine x_callP hone ci_natOf (by simp [evA, upd_app, ofVal, ofCell]) (by simp [AV.pure, AV.pureL]) (by simp) ?_
              simp (disch := omega) only [go_sem, ↓k_cond, ↓x_idx, ↓k_block, Nat.reduceEqDiff, Nat.reduceBEq, ↓reduceIte, reduceCtorEq, e0, natI]
              refine x_callP (hN2) ci_readNat (by simp [evA, upd_app, ofVal, ofCell]) (by simp [AV.pure, AV.pureL, natA_pure, natI_pure, natS_pure]) (by simp [AV.pure, AV.pureL, natA_pure, natI_pure, natS_pure]) ?_
              simp (disch := omega) only [go_sem, ↓k_cond, ↓x_idx, ↓k_block, Nat.reduceEqDiff, Nat.reduceBEq, ↓reduceIte, reduceCtorEq, natI]
              refine x_callP hone ci_natOf (by simp [evA, upd_app, ofVal, ofCell]) (by simp [AV.pure, AV.pureL]) (by simp) ?_
              simp (disch := omega) only [go_sem, ↓k_cond, ↓x_idx, ↓k_block, Nat.reduceEqDiff, Nat.reduceBEq, ↓reduceIte, reduceCtorEq, natI]
              refine x_callP hcmp ci_cmp (by simp [evA, upd_app, natI]) (by simp [AV.pureL]) rfl ?_
              simp (disch := omega) only [go_sem, ↓k_cond, ↓x_idx, ↓k_block, Nat.reduceEqDiff, Nat.reduceBEq, ↓reduceIte, reduceCtorEq, e0, natI]
              rw [← hQ]
              exact hfail _ (by simp [upd_app] <;> omega) (by simp [upd_app]) (by simp [upd_app, zrI]) (by simp [upd_app] <;> omega) hpq
        · skip
          cases hte : tokD (s.drop (i + 1)) with
          | false =>
            simp only [hte, Bool.false_eq_true, false_and, if_false] at hpq
            simp only [readNatV, hte, Bool.false_eq_true, if_false] at hN2
            (refine callOk_of_wpc (W := fun _ => false) false hm' Tryz.func45 rfl (by kernel_rfl) (Nat.le_of_ble_eq_true rfl) (go_start ?_); generalize hQ : Post Tryz.prog Tryz.f45 _ _ _ _ _ = Q; simp only [stIn, matL, matA, st00])
            simp (disch := omega) only [go_sem, ↓k_cond, ↓x_idx, ↓k_block, Nat.reduceEqDiff, Nat.reduceBEq, ↓reduceIte, reduceCtorEq, zrI, e0]
            refine x_callP (hCut') c_Cut (by simp [evA, upd_app, ofVal, ofCell]) (by simp [AV.pure, AV.pureL, natA_pure, natI_pure, natS_pure]) (by simp [AV.pure, AV.pureL, natA_pure, natI_pure, natS_pure]) ?_
            simp (disch := omega) only [go_sem, ↓k_cond, ↓x_idx, ↓k_block, Nat.reduceEqDiff, Nat.reduceBEq, ↓reduceIte, reduceCtorEq, natI]
            refine x_callP (hPre) c_CutPrefix (by simp [evA, upd_app, ofVal, ofCell]) (by simp [AV.pure, AV.pureL, natA_pure, natI_pure, natS_pure]) (by simp [AV.pure, AV.pureL, natA_pure, natI_pure, natS_pure]) ?_
            simp (disch := omega) only [go_sem, ↓k_cond, ↓x_idx, ↓k_block, Nat.reduceEqDiff, Nat.reduceBEq, ↓reduceIte, reduceCtorEq, natI]
            refine x_callP (hN1) ci_readNat (by simp [evA, upd_app, ofVal, ofCell]) (by simp [AV.pure, AV.pureL, natA_pure, natI_pure, natS_pure]) (by simp [AV.pure, AV.pureL, natA_pure, natI_pure, natS_pure]) ?_
            simp (disch := omega) only [go_sem, ↓k_cond, ↓x_idx, ↓k_block, Nat.reduceEqDiff, Nat.reduceBEq, ↓reduceIte, reduceCtorEq, natI]
            refine x_callP hone ci_natOf (by simp [evA, upd_app, ofVal, ofCell]) (by simp [AV.pure, AV.pureL]) (by simp) ?_
            simp (disch := omega) only [go_sem, ↓k_cond, ↓x_idx, ↓k_block, Nat.reduceEqDiff, Nat.reduceBEq, ↓reduceIte, reduceCtorEq, e0, natI]
            refine x_callP (hN2) ci_readNat (by simp [evA, upd_app, ofVal, ofCell]) (by simp [AV.pure, AV.pureL, natA_pure, natI_pure, natS_pure]) (by simp [AV.pure, AV.pureL, natA_pure, natI_pure, natS_pure]) ?_
            simp (disch := omega) only [go_sem, ↓k_cond, ↓x_idx, ↓k_block, Nat.reduceEqDiff, Nat.reduceBEq, ↓reduceIte, reduceCtorEq, e0, natI]
            rw [← hQ]
            exact hfail _ (by simp [upd_app] <;> omega) (by simp [upd_app]) (by simp [upd_app, zrI]) (by simp [upd_app] <;> omega) hpq
          | true =>
            have htl2 := htk2 hte
            simp only [hte, true_and] at hpq
            simp only [readNatV, hte, if_true] at hN2
            obtain ⟨u, hu⟩ : ∃ u, dval (s.drop (i + 1)) = u := ⟨_, rfl⟩
            rw [hu] at hN2 hpq htl2
            have hcmp := i_Cmp u 1 (by omega) (by omega)
            have hgcd := i_gcd v u (by omega) (by omega)
            by_cases hu1 : 1 < u
            · have hc1 : cmpI u 1 = 1 := cmpI_gt hu1
              rw [hc1] at hcmp
              obtain ⟨g, hg⟩ : ∃ g, Nat.gcd v u = g := ⟨_, rfl⟩
              rw [hg] at hgcd
              simp only [hg] at hpq
              have hgu : g ≤ u := by rw [← hg]; exact Nat.gcd_le_right v (by omega)
              have hgl := enc_len_mono B32_gt hgu
              have hcg := i_Cmp g 1 (by omega) (by omega)
              by_cases hg1 : g = 1
              · subst hg1
                rw [cmpI_eq] at hcg
                simp only [hu1, and_self, if_true] at hpq
                (refine callOk_of_wpc (W := fun _ => false) false hm' Tryz.func45 rfl (by kernel_rfl) (Nat.le_of_ble_eq_true rfl) (go_start ?_); generalize hQ : Post Tryz.prog Tryz.f45 _ _ _ _ _ = Q; simp only [stIn, matL, matA, st00])
                simp (disch := omega) only [go_sem, ↓k_cond, ↓x_idx, ↓k_block, Nat.reduceEqDiff, Nat.reduceBEq, ↓reduceIte, reduceCtorEq, zrI, e0]
                refine x_callP (hCut') c_Cut (by simp [evA, upd_app, ofVal, ofCell]) (by simp [AV.pure, AV.pureL, natA_pure, natI_pure, natS_pure]) (by simp [AV.pure, AV.pureL, natA_pure, natI_pure, natS_pure]) ?_
                simp (disch := omega) only [go_sem, ↓k_cond, ↓x_idx, ↓k_block, Nat.reduceEqDiff, Nat.reduceBEq, ↓reduceIte, reduceCtorEq, natI]
                refine x_callP (hPre) c_CutPrefix (by simp [evA, upd_app, ofVal, ofCell]) (by simp [AV.pure, AV.pureL, natA_pure, natI_pure, natS_pure]) (by simp [AV.pure, AV.pureL, natA_pure, natI_pure, natS_pure]) ?_
                simp (disch := omega) only [go_sem, ↓k_cond, ↓x_idx, ↓k_block, Nat.reduceEqDiff, Nat.reduceBEq, ↓reduceIte, reduceCtorEq, natI]
                refine x_callP (hN1) ci_readNat (by simp [evA, upd_app, ofVal, ofCell]) (by simp [AV.pure, AV.pureL, natA_pure, natI_pure, natS_pure]) (by simp [AV.pure, AV.pureL, natA_pure, natI_pure, natS_pure]) ?_
                simp (disch := omega) only [go_sem, ↓k_cond, ↓x_idx, ↓k_block, Nat.reduceEqDiff, Nat.reduceBEq, ↓reduceIte, reduceCtorEq, natI]
                refine x_callP hone ci_natOf (by simp [evA, upd_app, ofVal, ofCell]) (by simp [AV.pure, AV.pureL]) (by simp) ?_
                simp (disch := omega) only [go_sem, ↓k_cond, ↓x_idx, ↓k_block, Nat.reduceEqDiff, Nat.reduceBEq, ↓reduceIte, reduceCtorEq, e0, natI]
                refine x_callP (hN2) ci_readNat (by simp [evA, upd_app, ofVal, ofCell]) (by simp [AV.pure, AV.pureL, natA_pure, natI_pure, natS_pure]) (by simp [AV.pure, AV.pureL, natA_pure, natI_pure, natS_pure]) ?_
                simp (disch := omega) only [go_sem, ↓k_cond, ↓x_idx, ↓k_block, Nat.reduceEqDiff, Nat.reduceBEq, ↓reduceIte, reduceCtorEq, natI]
                refine x_callP hone ci_natOf (by simp [evA, upd_app, ofVal, ofCell]) (by simp [AV.pure, AV.pureL]) (by simp) ?_
                simp (disch := omega) only [go_sem, ↓k_cond, ↓x_idx, ↓k_block, Nat.reduceEqDiff, Nat.reduceBEq, ↓reduceIte, reduceCtorEq, natI]
                refine x_callP hcmp ci_cmp (by simp [evA, upd_app, natI]) (by simp [AV.pureL]) rfl ?_
                simp (disch := omega) only [go_sem, ↓k_cond, ↓x_idx, ↓k_block, Nat.reduceEqDiff, Nat.reduceBEq, ↓reduceIte, reduceCtorEq, natI]
                refine x_callP hgcd ci_gcd (by simp [evA, upd_app, natI]) (by simp [AV.pureL]) (by simp) ?_
                simp (disch := omega) only [go_sem, ↓k_cond, ↓x_idx, ↓k_block, Nat.reduceEqDiff, Nat.reduceBEq, ↓reduceIte, reduceCtorEq, natI]
                refine x_callP hone ci_natOf (by simp [evA, upd_app, ofVal, ofCell]) (by simp [AV.pure, AV.pureL]) (by simp) ?_
                refine x_callP hcg ci_cmp (by simp [evA, upd_app, natI]) (by simp [AV.pureL]) rfl ?_
                simp (disch := omega) only [go_sem, ↓k_cond, ↓x_idx, ↓k_block, Nat.reduceEqDiff, Nat.reduceBEq, ↓reduceIte, reduceCtorEq, e0, natI]
                rw [← hQ]
                refine hgood _ (_, v, u) ?_ ?_ ?_ ?_ hpq
                · exact (by simp [upd_app] <;> omega)
                · simp [upd_app]
                · simp only [upd_app, ↓reduceIte, ratI, natI]
                · exact (by simp [upd_app] <;> omega)
              · have hcn : cmpI g 1 ≠ 0 := by
                  rcases Nat.lt_trichotomy g 1 with h | h | h
                  · rw [cmpI_lt h]; decide
                  · exact absurd h hg1
                  · rw [cmpI_gt h]; decide
                rw [if_neg (fun h => hg1 h.2)] at hpq
                (refine callOk_of_wpc (W := fun _ => false) false hm' Tryz.func45 rfl (by kernel_rfl) (Nat.le_of_ble_eq_true rfl) (go_start ?_); generalize hQ : Post Tryz.prog Tryz.f45 _ _ _ _ _ = Q; simp only [stIn, matL, matA, st00])
                simp (disch := omega) only [go_sem, ↓k_cond, ↓x_idx, ↓k_block, Nat.reduceEqDiff, Nat.reduceBEq, ↓reduceIte, reduceCtorEq, zrI, e0]
                refine x_callP (hCut') c_Cut (by simp [evA, upd_app, ofVal, ofCell]) (by simp [AV.pure, AV.pureL, natA_pure, natI_pure, natS_pure]) (by simp [AV.pure, AV.pureL, natA_pure, natI_pure, natS_pure]) ?_
                simp (disch := omega) only [go_sem, ↓k_cond, ↓x_idx, ↓k_block, Nat.reduceEqDiff, Nat.reduceBEq, ↓reduceIte, reduceCtorEq, natI]
                refine x_callP (hPre) c_CutPrefix (by simp [evA, upd_app, ofVal, ofCell]) (by simp [AV.pure, AV.pureL, natA_pure, natI_pure, natS_pure]) (by simp [AV.pure, AV.pureL, natA_pure, natI_pure, natS_pure]) ?_
                simp (disch := omega) only [go_sem, ↓k_cond, ↓x_idx, ↓k_block, Nat.reduceEqDiff, Nat.reduceBEq, ↓reduceIte, reduceCtorEq, natI]
                refine x_callP (hN1) ci_readNat (by simp [evA, upd_app, ofVal, ofCell]) (by simp [AV.pure, AV.pureL, natA_pure, natI_pure, natS_pure]) (by simp [AV.pure, AV.pureL, natA_pure, natI_pure, natS_pure]) ?_
                simp (disch := omega) only [go_sem, ↓k_cond, ↓x_idx, ↓k_block, Nat.reduceEqDiff, Nat.reduceBEq, ↓reduceIte, reduceCtorEq, natI]
                refine x_callP hone ci_natOf (by simp [evA, upd_app, ofVal, ofCell]) (by simp [AV.pure, AV.pureL]) (by simp) ?_
                simp (disch := omega) only [go_sem, ↓k_cond, ↓x_idx, ↓k_block, Nat.reduceEqDiff, Nat.reduceBEq, ↓reduceIte, reduceCtorEq, e0, natI]
                refine x_callP (hN2) ci_readNat (by simp [evA, upd_app, ofVal, ofCell]) (by simp [AV.pure, AV.pureL, natA_pure, natI_pure, natS_pure]) (by simp [AV.pure, AV.pureL, natA_pure, natI_pure, natS_pure]) ?_
                simp (disch := omega) only [go_sem, ↓k_cond, ↓x_idx, ↓k_block, Nat.reduceEqDiff, Nat.reduceBEq, ↓reduceIte, reduceCtorEq, natI]
                refine x_callP hone ci_natOf (by simp [evA, upd_app, ofVal, ofCell]) (by simp [AV.pure, AV.pureL]) (by simp) ?_
                simp (disch := omega) only [go_sem, ↓k_cond, ↓x_idx, ↓k_block, Nat.reduceEqDiff, Nat.reduceBEq, ↓reduceIte, reduceCtorEq, natI]
                refine x_callP hcmp ci_cmp (by simp [evA, upd_app, natI]) (by simp [AV.pureL]) rfl ?_
                simp (disch := omega) only [go_sem, ↓k_cond, ↓x_idx, ↓k_block, Nat.reduceEqDiff, Nat.reduceBEq, ↓reduceIte, reduceCtorEq, natI]
                refine x_callP hgcd ci_gcd (by simp [evA, upd_app, natI]) (by simp [AV.pureL]) (by simp) ?_
                simp (disch := omega) only [go_sem, ↓k_cond, ↓x_idx, ↓k_block, Nat.reduceEqDiff, Nat.reduceBEq, ↓reduceIte, reduceCtorEq, natI]
                refine x_callP hone ci_natOf (by simp [evA, upd_app, ofVal, ofCell]) (by simp [AV.pure, AV.pureL]) (by simp) ?_
                refine x_callP hcg ci_cmp (by simp [evA, upd_app, natI]) (by simp [AV.pureL]) rfl ?_
                simp (disch := omega) only [go_sem, ↓k_cond, ↓x_idx, ↓k_block, Nat.reduceEqDiff, Nat.reduceBEq, ↓reduceIte, reduceCtorEq, e0, natI]
                rw [← hQ]
                exact hfail _ (by simp [upd_app] <;> omega) (by simp [upd_app]) (by simp [upd_app, zrI]) (by simp [upd_app] <;> omega) hpq
            · have hc1 : cmpI u 1 ≤ 0 := by
                rcases Nat.lt_or_ge u 1 with h | h
                · rw [cmpI_lt h]; decide
                · rw [show u = 1 by omega, cmpI_eq]; decide
              rw [if_neg (fun h => hu1 h.1)] at hpq
              (refine callOk_of_wpc (W := fun _ => false) false hm' Tryz.func45 rfl (by kernel_rfl) (Nat.le_of_ble_eq_true rfl) (go_start ?_); generalize hQ : Post Tryz.prog Tryz.f45 _ _ _ _ _ = Q; simp only [stIn, matL, matA, st00])
              simp (disch := omega) only [go_sem, ↓k_cond, ↓x_idx, ↓k_block, Nat.reduceEqDiff, Nat.reduceBEq, ↓reduceIte, reduceCtorEq, zrI, e0]
              refine x_callP (hCut') c_Cut (by simp [evA, upd_app, ofVal, ofCell]) (by simp [AV.pure, AV.pureL, natA_pure, natI_pure, natS_pure]) (by simp [AV.pure, AV.pureL, natA_pure, natI_pure, natS_pure]) ?_
              simp (disch := omega) only [go_sem, ↓k_cond, ↓x_idx, ↓k_block, Nat.reduceEqDiff, Nat.reduceBEq, ↓reduceIte, reduceCtorEq, natI]
              refine x_callP (hPre) c_CutPrefix (by simp [evA, upd_app, ofVal, ofCell]) (by simp [AV.pure, AV.pureL, natA_pure, natI_pure, natS_pure]) (by simp [AV.pure, AV.pureL, natA_pure, natI_pure, natS_pure]) ?_
              simp (disch := omega) only [go_sem, ↓k_cond, ↓x_idx, ↓k_block, Nat.reduceEqDiff, Nat.reduceBEq, ↓reduceIte, reduceCtorEq, natI]
              refine x_callP (hN1) ci_readNat (by simp [evA, upd_app, ofVal, ofCell]) (by simp [AV.pure, AV.pureL, natA_pure, natI_pure, natS_pure]) (by simp [AV.pure, AV.pureL, natA_pure, natI_pure, natS_pure]) ?_
              simp (disch := omega) only [go_sem, ↓k_cond, ↓x_idx, ↓k_block, Nat.reduceEqDiff, Nat.reduceBEq, ↓reduceIte, reduceCtorEq, natI]
              refine x_callP hone ci_natOf (by simp [evA, upd_app, ofVal, ofCell]) (by simp [AV.pure, AV.pureL]) (by simp) ?_
              simp (disch := omega) only [go_sem, ↓k_cond, ↓x_idx, ↓k_block, Nat.reduceEqDiff, Nat.reduceBEq, ↓reduceIte, reduceCtorEq, e0, natI]
              refine x_callP (hN2) ci_readNat (by simp [evA, upd_app, ofVal, ofCell]) (by simp [AV.pure, AV.pureL, natA_pure, natI_pure, natS_pure]) (by simp [AV.pure, AV.pureL, natA_pure, natI_pure, natS_pure]) ?_
              simp (disch := omega) only [go_sem, ↓k_cond, ↓x_idx, ↓k_block, Nat.reduceEqDiff, Nat.reduceBEq, ↓reduceIte, reduceCtorEq, natI]
              refine x_callP hone ci_natOf (by simp [evA, upd_app, ofVal, ofCell]) (by simp [AV.pure, AV.pureL]) (by simp) ?_
              simp (disch := omega) only [go_sem, ↓k_cond, ↓x_idx, ↓k_block, Nat.reduceEqDiff, Nat.reduceBEq, ↓reduceIte, reduceCtorEq, natI]
              refine x_callP hcmp ci_cmp (by simp [evA, upd_app, natI]) (by simp [AV.pureL]) rfl ?_
              simp (disch := omega) only [go_sem, ↓k_cond, ↓x_idx, ↓k_block, Nat.reduceEqDiff, Nat.reduceBEq, ↓reduceIte, reduceCtorEq, e0, natI]
              rw [← hQ]
              exact hfail _ (by simp [upd_app] <;> omega) (by simp [upd_app]) (by simp [upd_app, zrI]) (by simp [upd_app] <;> omega) hpq
@[simp] theorem zeroI_pure : zrI.pure = true := rfl
def strA (xs : List (List UInt8)) : List AV := xs.map .str
theorem strA_length (xs : List (List UInt8)) : (strA xs).length = xs.length := by simp [strA]
theorem strA_at {xs : List (List UInt8)} {i : Nat} : (strA xs)[i]? = (xs[i]?).map AV.str := by simp [strA]
@[simp] theorem strA_pure (xs : List (List UInt8)) : AV.pureL (strA xs) = true := by induction xs <;> simp_all [strA, AV.pureL, AV.pure]
abbrev Qd := Bool × Nat × Nat
theorem mapM_take {α β : Type} {f : α → Option β} {xs : List α} {i : Nat} {x : α} {y : β} {ys : List β} (h : (xs.take i).mapM f = some ys) (hx : xs[i]? = some x) (hy : f x = some y) : (xs.take (i + 1)).mapM f = some (ys ++ [y]) := by
 rw [List.take_add_one, hx, List.mapM_append, h]; simp [hy]
theorem mapM_fail {α β : Type} {f : α → Option β} {xs : List α} {i : Nat} {x : α} (hx : xs[i]? = some x) (hy : f x = none) : xs.mapM f = none := by
 have : xs = xs.take i ++ x :: xs.drop (i + 1) := by rw [← drop_cons hx, List.take_append_drop]
 rw [this, List.mapM_append]
 cases (xs.take i).mapM f <;> simp [hy]
theorem c_Gcd : callable Tryz.prog 75 = true := by kernel_rfl
theorem c_NatRead : callable Tryz.prog 74 = true := by kernel_rfl
theorem c_Digits : callable Tryz.prog 73 = true := by kernel_rfl
theorem c_sCut01 : callable Tryz.prog 72 = true := by kernel_rfl
theorem s_Gcd (a b : Nat) (ha : (enc B9 a).length ≤ 1099511627775) (hb : (enc B9 b).length ≤ 1099511627775) : CallOk Tryz.prog 75 [natS a, natS b] (natS (Nat.gcd a b)) [] := by
  (refine callOk_of_wpc (W := fun _ => false) false hm' Tryz.func75 rfl (by kernel_rfl) (Nat.le_of_ble_eq_true rfl) (go_start ?_); generalize hQ : Post Tryz.prog Tryz.f75 _ _ _ _ _ = Q; simp only [stIn, matL, matA, st00, natS])
  simp (disch := omega) only [go_sem, ↓k_cond, ↓x_idx, ↓k_block, Nat.reduceEqDiff, Nat.reduceBEq, ↓reduceIte, reduceCtorEq]
  refine k_loop (fun (p : Nat × Nat) st => st.fr 0 = natS p.1 ∧ st.fr 1 = natS p.2 ∧ Nat.gcd p.1 p.2 = Nat.gcd a b ∧ (enc B9 p.1).length ≤ 1099511627775 ∧ (enc B9 p.2).length ≤ 1099511627775) (fun p => p.2) (a, b)
    ⟨(by simp [upd_app, natS] <;> omega), (by simp [upd_app, natS] <;> omega), rfl, ha, hb⟩ ?_
  rintro ⟨x, y⟩ ⟨fr, h, nx⟩ ⟨h0, h1, hg, hx, hy⟩ J hJ
  simp only [natS] at h0 h1 hg hx hy
  by_cases hy0 : y = 0
  · subst hy0
    rw [Nat.gcd_zero_right] at hg
    rw [enc_zero] at h1
    simp (disch := omega) only [go_sem, ↓k_cond, ↓x_idx, ↓k_block, Nat.reduceEqDiff, Nat.reduceBEq, ↓reduceIte, reduceCtorEq, h0, h1, List.length_nil]
    rw [← hQ]
    exact post_one (.inl rfl) rfl (by simp [upd_app, h0, natS, hg] <;> omega) (by simp)
  · have hyl := enc_len_pos B9_gt hy0
    have hK : (enc B9 (x % y)).length ≤ 1099511627775 := Nat.le_trans (enc_len_mono B9_gt (Nat.le_of_lt (Nat.mod_lt _ (by omega)))) hy
    simp (disch := omega) only [go_sem, ↓k_cond, ↓x_idx, ↓k_block, Nat.reduceEqDiff, Nat.reduceBEq, ↓reduceIte, reduceCtorEq, h0, h1]
    refine x_callP (s_NatDiv x y hx hy0 hy) c_NatDiv (by simp [evA, upd_app, ofVal, ofCell, natS, h0, h1]) (by simp [AV.pure, AV.pureL, natA_pure, natI_pure, natS_pure]) (by simp [AV.pure, AV.pureL, natA_pure, natI_pure, natS_pure]) ?_
    simp (disch := omega) only [go_sem, ↓k_cond, ↓x_idx, ↓k_block, Nat.reduceEqDiff, Nat.reduceBEq, ↓reduceIte, reduceCtorEq, h0, h1]
    exact hJ (y, x % y) _ ⟨(by simp [upd_app, natS] <;> omega), (by simp [upd_app] <;> omega), by rw [← hg]; exact gcd_step x y, hy, hK⟩ (Nat.mod_lt _ (by omega))

theorem dval_group {s : List UInt8} {to frm : Nat} (hft : frm ≤ to) (ht : to ≤ s.length) : dval (s.drop frm) = dval ((s.take to).drop frm) * 10 ^ (s.length - to) + dval (s.drop to) := by
 have : s.drop frm = (s.take to).drop frm ++ s.drop to := by
  conv => lhs; rw [← List.take_append_drop to s, List.drop_append]
  congr 1
  rw [List.length_take, Nat.min_eq_left ht, show frm - to = 0 by omega, List.drop_zero]
 rw [this, dval_append]; simp
theorem pow9 (k : Nat) : B9 ^ k = 10 ^ (9 * k) := by rw [Nat.pow_mul]; rfl

theorem snapL_oneX {st : St} {id n len T : Nat} {k : IntKind} {xs : List Nat} {ex : Bool} (h : st.h id = ⟨T, natA k xs, ex, true, true⟩) (hn : xs.length = n) (hl : len ≤ n) :
  snapL (snapA st 8) [.ref id n 0 len] = some ([.sl T (natA k (xs.take len)) [] false], [id]) := by
 have := snap_frozen (st := st) (d := 7) (id := id) (n := n) (off := 0) (len := len) (T := T) (r := natA k (xs.take len)) (by rw [h]) (by rw [h, natA_length, hn]) (by rw [h]) (by omega) (by rw [h, List.drop_zero, natA_take]) (natA_pure _ _)
 simp [snapL, this]
theorem s_NatRead (s : List UInt8) (h : ∀ c ∈ s, isDig c = true) (hl : s.length ≤ 1000000) : CallOk Tryz.prog 74 [.str s] (natS (dval s)) [] := by
  (refine callOk_of_wpc (W := fun g => g == 92) false hm' Tryz.func74 rfl (by kernel_rfl) (Nat.le_of_ble_eq_true rfl) (go_start ?_); generalize hQ : Post Tryz.prog Tryz.f74 _ _ _ _ _ = Q; simp only [stIn, matL, matA, st00])
  have hB : B9 = 1000000000 := rfl
  simp (disch := omega) only [go_sem, ↓k_cond, ↓x_idx, ↓k_block, Nat.reduceEqDiff, Nat.reduceBEq, ↓reduceIte, reduceCtorEq]
  obtain ⟨R, hR⟩ : ∃ R : Int × List Nat → St → Prop, R = fun p st => st.fr 0 = .str s ∧ st.fr 3 = .ref 0 p.2.length 0 p.2.length ∧ st.fr 4 = .int .i64 p.1 ∧ (∃ ex, st.h 0 = ⟨2, natA .i64 p.2, ex, true, true⟩) ∧ p.1 ≤ (s.length : Int) ∧ -9 ≤ p.1 ∧ (∀ q ∈ p.2, q < B9) ∧
      val B9 p.2 = dval (s.drop p.1.toNat) ∧ (0 < p.1 → s.length - p.1.toNat = 9 * p.2.length) ∧ p.2.length ≤ s.length := ⟨_, rfl⟩
  refine k_loop R (fun p => p.1.toNat) (s.length, []) (by rw [hR]; exact ⟨(by simp [upd_app] <;> omega), (by simp [upd_app] <;> omega), (by simp [upd_app] <;> omega), ⟨true, by simp [upd_app, natA]⟩, by simp, by simp only; omega, by simp, by simp [val, dval], by simp, by simp⟩) ?_
  rintro ⟨to, ds⟩ ⟨fr, hh, nx⟩ hst J hJ
  rw [hR] at hst
  obtain ⟨g0, g3, g4, ⟨ex, hm⟩, ht1, ht2, hq, hv, h9, hdl⟩ := hst
  simp only at g0 g3 g4 hm ht1 ht2 hq hv h9 hdl
  by_cases hpos : 0 < to
  · obtain ⟨t, rfl⟩ : ∃ t : Nat, to = t := ⟨to.toNat, by omega⟩
    rw [Int.toNat_natCast] at hv h9
    have ht : 0 < t := by omega
    have htl : t ≤ s.length := by omega
    have h9' := h9 hpos
    obtain ⟨f, hf, hf1, hf2⟩ : ∃ f : Nat, (if 9 < t then t - 9 else 0) = f ∧ f < t ∧ t - f ≤ 9 := ⟨_, rfl, by split <;> omega, by split <;> omega⟩
    have hchunk : ((s.take t).drop f).length = t - f := by simp; omega
    have hcd : ∀ c ∈ (s.take t).drop f, isDig c = true := fun c hc => h c (List.mem_of_mem_take (List.mem_of_mem_drop hc))
    obtain ⟨v, hvv⟩ : ∃ v, dval ((s.take t).drop f) = v := ⟨_, rfl⟩
    have hvB : v < 1000000000 := by
      have := dval_lt hcd; rw [hchunk, hvv] at this
      exact Nat.lt_of_lt_of_le this (Nat.le_trans (Nat.pow_le_pow_right (by omega) hf2) (by decide))
    have hgrp := dval_group (s := s) (Nat.le_of_lt hf1) htl
    rw [hvv] at hgrp
    have hfin : ∀ st : St, st.fr 0 = .str s → st.fr 3 = .ref 0 (ds.length + 1) 0 (ds.length + 1) → st.fr 4 = .int .i64 ((t : Int) - 9) → (∃ ex, st.h 0 = ⟨2, natA .i64 (ds ++ [v]), ex, true, true⟩) → J st := by
      intro st r0 r3 r4 rh
      refine hJ ((t : Int) - 9, ds ++ [v]) st ?_ (by simp only; omega)
      rw [hR]
      refine ⟨r0, by simpa using r3, r4, rh, by simp only; omega, by simp only; omega, ?_, ?_, ?_, by simp; omega⟩
      · intro q hq'; rcases List.mem_append.1 hq' with h' | h'
        · exact hq q h'
        · simp at h'; rw [h', hB]; exact hvB
      · have e : ((t : Int) - 9).toNat = f := by split at hf <;> omega
        simp only
        rw [e, hgrp, val_append, hv, pow9, ← h9']; simp only [val, Nat.mul_zero, Nat.add_zero]
        rw [Nat.mul_comm, Nat.add_comm]
      · intro h'; simp only at h' ⊢
        simp only [List.length_append, List.length_cons, List.length_nil]; omega
    clear hJ hR hQ hv h9 hq
    simp (disch := omega) only [go_sem, ↓k_cond, ↓x_idx, Nat.reduceEqDiff, Nat.reduceBEq, ↓reduceIte, reduceCtorEq, g0, g3, g4]
    rw [k_block]
    obtain ⟨F, hF⟩ : ∃ F : St → Prop, F = fun st => st.fr 0 = .str s ∧ st.fr 3 = .ref 0 ds.length 0 ds.length ∧ st.fr 4 = .int .i64 t ∧ st.fr 5 = .int .i64 f ∧ st.h = hh := ⟨_, rfl⟩
    simp (disch := omega) only [go_sem, ↓x_idx, ↓k_block, Nat.reduceEqDiff, Nat.reduceBEq, ↓reduceIte, reduceCtorEq, g0, g3, g4]
    refine k_join F ?_ ?_
    · by_cases h9t : 9 < t
      · rw [if_pos h9t] at hf
        have e : (t : Int) - 9 = (f : Int) := by omega
        simp (disch := omega) only [go_sem, ↓k_cond, ↓x_idx, ↓k_block, Nat.reduceEqDiff, Nat.reduceBEq, ↓reduceIte, reduceCtorEq, g0, g3, g4, e]
        rw [hF]; exact ⟨(by simp [upd_app, g0] <;> omega), (by simp [upd_app, g3] <;> omega), (by simp [upd_app, g4] <;> omega), (by simp [upd_app] <;> omega), rfl⟩
      · rw [if_neg h9t] at hf
        subst hf
        simp (disch := omega) only [go_sem, ↓k_cond, ↓x_idx, ↓k_block, Nat.reduceEqDiff, Nat.reduceBEq, ↓reduceIte, reduceCtorEq, g0, g3, g4]
        rw [hF]; exact ⟨(by simp [upd_app, g0] <;> omega), (by simp [upd_app, g3] <;> omega), (by simp [upd_app, g4] <;> omega), (by simp [upd_app] <;> omega), rfl⟩
    clear hf
    rintro ⟨fr, h1, nx1⟩ hst
    rw [hF] at hst
    obtain ⟨g0, g3, g4, g5, e1⟩ := hst
    simp only at g0 g3 g4 g5 e1
    subst e1
    simp (disch := omega) only [go_sem, ↓k_cond, ↓x_idx, ↓k_block, Nat.reduceEqDiff, Nat.reduceBEq, ↓reduceIte, reduceCtorEq, g0, g3, g4, g5]
    refine k_loop (fun (i : Nat) st => st.fr 0 = .str s ∧ st.fr 3 = .ref 0 ds.length 0 ds.length ∧ st.fr 4 = .int .i64 t ∧ st.fr 6 = .int .i64 (dval ((s.take (f + i)).drop f)) ∧ st.fr 7 = .int .i64 ((f + i : Nat) : Int) ∧ st.h = h1 ∧ f + i ≤ t) (fun i => t - (f + i)) 0
      ⟨(by simp [upd_app, g0] <;> omega), (by simp [upd_app, g3] <;> omega), (by simp [upd_app, g4] <;> omega), by simp [upd_app, List.drop_take, dval], (by simp [upd_app, g5] <;> omega), rfl, by omega⟩ ?_
    rintro i ⟨fr, h2, nx2⟩ ⟨g0, g3, g4, g6, g7, e1, hi⟩ J2 hJ2
    simp only at g0 g3 g4 g6 g7 e1
    subst e1
    by_cases hin : f + i < t
    · obtain ⟨c, hc⟩ := get_some (xs := s) (i := f + i) (by omega)
      have hcd1 := h c (List.mem_of_getElem? hc)
      have hc48 : 48 ≤ c.toNat ∧ c.toNat ≤ 57 := by simpa [isDig] using hcd1
      have hstep : (s.take (f + (i + 1))).drop f = (s.take (f + i)).drop f ++ [c] := by
        rw [← Nat.add_assoc, List.take_add_one, hc, List.drop_append]
        congr 1
        rw [List.length_take, Nat.min_eq_left (by omega), show f - (f + i) = 0 by omega]; rfl
      have hsd := dval_snoc ((s.take (f + i)).drop f) c
      rw [← hstep] at hsd
      have hlt : dval ((s.take (f + i)).drop f) < 1000000000 := by
        have := dval_lt (s := (s.take (f + i)).drop f) (fun c hc => h c (List.mem_of_mem_take (List.mem_of_mem_drop hc)))
        rw [show ((s.take (f + i)).drop f).length = i by simp; omega] at this
        exact Nat.lt_of_lt_of_le this (Nat.le_trans (Nat.pow_le_pow_right (by omega) (show i ≤ 9 by omega)) (by decide))
      generalize dval ((s.take (f + i)).drop f) = w at *
      have hsub : (c.toNat : Int) - 48 = ((c.toNat - 48 : Nat) : Int) := by omega
      have hdd : (c.toNat - 48) ≤ 9 := by omega
      simp (disch := omega) only [go_sem, ↓k_cond, ↓x_idx, ↓k_block, Nat.reduceEqDiff, Nat.reduceBEq, ↓reduceIte, reduceCtorEq, g0, g3, g4, g6, g7, hc, hsub]
      exact hJ2 (i + 1) _ ⟨(by simp [upd_app, g0] <;> omega), (by simp [upd_app, g3] <;> omega), (by simp [upd_app, g4] <;> omega), by rw [hsd]; exact (by simp [upd_app] <;> omega), (by simp [upd_app] <;> omega), rfl, by omega⟩ (by omega)
    · have hfi : f + i = t := by omega
      rw [hfi, hvv] at g6
      have hml : (natA .i64 ds).length = ds.length := natA_length ..
      simp (disch := omega) only [go_sem, ↓k_cond, ↓x_idx, ↓k_block, Nat.reduceEqDiff, Nat.reduceBEq, ↓reduceIte, reduceCtorEq, g0, g3, g4, g6, g7, hfi, hm, reach]
      exact hfin _ (by simp [upd_app, g0] <;> omega) (by simp [upd_app] <;> omega) (by simp [upd_app] <;> omega) ⟨false, by simp [upd_app]⟩
  · have e0 : to.toNat = 0 := by omega
    rw [e0, List.drop_zero] at hv
    simp (disch := omega) only [go_sem, ↓k_cond, ↓x_idx, ↓k_block, Nat.reduceEqDiff, Nat.reduceBEq, ↓reduceIte, reduceCtorEq, g0, g3, g4]
    have htr : trimZ (ds.take ds.length) = enc B9 (dval s) := by rw [List.take_length, trimZ_enc B9_gt hq, hv]
    refine x_callF (s_Trim hm' (ds.take ds.length) (by simp; omega)) c_Trim (by simp [evA, upd_app]) (snapL_oneX (id := 0) (st := ⟨_, _, _⟩) hm rfl (Nat.le_refl _)) (by simp [hm]) (by simp [AV.pure, AV.pureL, natA_pure, natI_pure, natS_pure]) (by simp [AV.pure, AV.pureL, natA_pure, natI_pure, natS_pure]) (by simp) ?_
    rw [htr]
    simp (disch := omega) only [go_sem, ↓k_cond, ↓x_idx, ↓k_block, Nat.reduceEqDiff, Nat.reduceBEq, ↓reduceIte, reduceCtorEq]
    rw [← hQ]
    exact post_one (.inl rfl) rfl (by simp [upd_app, natS] <;> omega) (by simp)
theorem s_Digits (s : List UInt8) (hs : s.length < 9223372036854775808) : CallOk Tryz.prog 73 [.str s] (.bool (tokD s)) [] := by
  (refine callOk_of_wpc (W := fun _ => false) false hm' Tryz.func73 rfl (by kernel_rfl) (Nat.le_of_ble_eq_true rfl) (go_start ?_); generalize hQ : Post Tryz.prog Tryz.f73 _ _ _ _ _ = Q; simp only [stIn, matL, matA, st00])
  simp (disch := omega) only [go_sem, ↓k_cond, ↓x_idx, ↓k_block, Nat.reduceEqDiff, Nat.reduceBEq, ↓reduceIte, reduceCtorEq]
  refine k_loop (fun (i : Nat) st => st.fr 0 = .str s ∧ st.fr 3 = .int .i64 i ∧ i ≤ s.length ∧ ∀ c ∈ s.take i, isDig c = true) (fun i => s.length - i) 0 ⟨(by simp [upd_app] <;> omega), (by simp [upd_app] <;> omega), by omega, by simp⟩ ?_
  rintro i ⟨fr, h, nx⟩ ⟨g0, g3, hi, hdg⟩ J hJ
  simp only at g0 g3
  by_cases hin : i < s.length
  · obtain ⟨c, hc⟩ := get_some (xs := s) (i := i) hin
    have hcb := c.toNat_lt
    cases hd : isDig c with
    | false =>
      have hnd : c.toNat < 48 ∨ 57 < c.toNat := by simp [isDig] at hd; omega
      have hb : tokD s = false := by simp [tokD]; intro _ _ _; exact ⟨c, List.mem_of_getElem? hc, hd⟩
      rw [hb] at hQ
      rcases hnd with hnd | hnd
      · simp (disch := omega) only [go_sem, ↓k_cond, ↓x_idx, ↓k_block, Nat.reduceEqDiff, Nat.reduceBEq, ↓reduceIte, reduceCtorEq, g0, g3, hc]
        rw [← hQ]
        exact post_one (.inl rfl) rfl (by simp [upd_app] <;> omega) rfl
      · simp (disch := omega) only [go_sem, ↓k_cond, ↓x_idx, ↓k_block, Nat.reduceEqDiff, Nat.reduceBEq, ↓reduceIte, reduceCtorEq, g0, g3, hc]
        rw [← hQ]
        exact post_one (.inl rfl) rfl (by simp [upd_app] <;> omega) rfl
    | true =>
      have hnd : 48 ≤ c.toNat ∧ c.toNat ≤ 57 := by simpa [isDig] using hd
      simp (disch := omega) only [go_sem, ↓k_cond, ↓x_idx, ↓k_block, Nat.reduceEqDiff, Nat.reduceBEq, ↓reduceIte, reduceCtorEq, g0, g3, hc]
      refine hJ (i + 1) _ ⟨(by simp [upd_app, g0] <;> omega), (by simp [upd_app] <;> omega), hin, fun d hd' => ?_⟩ (by omega)
      rw [List.take_add_one, hc] at hd'
      rcases List.mem_append.1 hd' with h' | h'
      · exact hdg d h'
      · simp at h'; rw [h']; exact hd
  · rw [List.take_of_length_le (by omega)] at hdg
    clear hJ
    have hall : s.all isDig = true := by simpa using hdg
    by_cases h1 : s.length < 1
    · have hb : tokD s = false := by simp [tokD]; omega
      rw [hb] at hQ
      simp (disch := omega) only [go_sem, ↓k_cond, ↓x_idx, ↓k_block, Nat.reduceEqDiff, Nat.reduceBEq, ↓reduceIte, reduceCtorEq, g0, g3]
      rw [← hQ]
      exact post_one (.inl rfl) rfl (by simp [upd_app] <;> omega) rfl
    by_cases h2 : 200 < s.length
    · have hb : tokD s = false := by simp [tokD]; omega
      rw [hb] at hQ
      simp (disch := omega) only [go_sem, ↓k_cond, ↓x_idx, ↓k_block, Nat.reduceEqDiff, Nat.reduceBEq, ↓reduceIte, reduceCtorEq, g0, g3]
      rw [← hQ]
      exact post_one (.inl rfl) rfl (by simp [upd_app] <;> omega) rfl
    by_cases h3 : s.length = 1
    · have hb : tokD s = true := by simp [tokD, h3, hall]
      rw [hb] at hQ
      simp (disch := omega) only [go_sem, ↓k_cond, ↓x_idx, ↓k_block, Nat.reduceEqDiff, Nat.reduceBEq, ↓reduceIte, reduceCtorEq, g0, g3]
      rw [← hQ]
      exact post_one (.inl rfl) rfl (by simp [upd_app] <;> omega) rfl
    obtain ⟨c0, hc0⟩ := get_some (xs := s) (i := 0) (by omega)
    have hc0' : s[Int.toNat 0]? = some c0 := hc0
    have hhead : s.head? = some c0 := by rw [List.head?_eq_getElem?]; exact hc0
    by_cases h4 : c0.toNat = 48
    · have hc48 : c0 = 48 := UInt8.toNat.inj (by rw [h4]; rfl)
      have hb : tokD s = false := by simp [tokD, hhead, hc48]; omega
      rw [hb] at hQ
      simp (disch := omega) only [go_sem, ↓k_cond, ↓x_idx, ↓k_block, Nat.reduceEqDiff, Nat.reduceBEq, ↓reduceIte, reduceCtorEq, g0, g3, hc0', h4]
      rw [← hQ]
      exact post_one (.inl rfl) rfl (by simp [upd_app] <;> omega) rfl
    · have hne : c0 ≠ 48 := fun e => h4 (by rw [e]; rfl)
      have hb : tokD s = true := by
        have a1 : decide (1 ≤ s.length) = true := by simp; omega
        have a2 : decide (s.length ≤ 200) = true := by simp; omega
        have a3 : (!(s.head? == some 48)) = true := by rw [hhead]; simp [hne]
        simp only [tokD, a1, a2, a3, hall, Bool.or_true, Bool.and_self]
      rw [hb] at hQ
      simp (disch := omega) only [go_sem, ↓k_cond, ↓x_idx, ↓k_block, Nat.reduceEqDiff, Nat.reduceBEq, ↓reduceIte, reduceCtorEq, g0, g3, hc0']
      rw [← hQ]
      exact post_one (.inl rfl) rfl (by simp [upd_app] <;> omega) rfl

def splitM (m : UInt8) : List UInt8 → List (List UInt8)
 | [] => [[]]
 | c :: cs => if c = m then [] :: splitM m cs else match splitM m cs with | p :: ps => (c :: p) :: ps | [] => [[c]]
theorem splitM_ne (m : UInt8) (s : List UInt8) : splitM m s ≠ [] := by
 cases s with
 | nil => simp [splitM]
 | cons c cs => simp only [splitM]; split; simp; split <;> simp
theorem splitM_seg {m : UInt8} : ∀ {a : List UInt8} {b : List UInt8}, m ∉ a → splitM m (a ++ m :: b) = a :: splitM m b
 | [], b, _ => by simp [splitM]
 | c :: cs, b, h => by
  simp only [List.mem_cons, not_or] at h
  simp only [List.cons_append, splitM, splitM_seg h.2]
  rw [if_neg (fun e => h.1 e.symm)]
theorem splitM_end {m : UInt8} : ∀ {a : List UInt8}, m ∉ a → splitM m a = [a]
 | [], _ => rfl
 | c :: cs, h => by
  simp only [List.mem_cons, not_or] at h
  simp only [splitM, splitM_end h.2]
  rw [if_neg (fun e => h.1 e.symm)]
theorem splitM_len (m : UInt8) : ∀ s : List UInt8, (splitM m s).length ≤ s.length + 1
  | [] => by simp [splitM]
  | c :: cs => by
    have := splitM_len m cs
    simp only [splitM]
    split
    · simp; omega
    · split
      · rename_i h; rw [h] at this; simp at this ⊢; omega
      · simp

theorem u8_eq {a b : UInt8} : ((a.toNat : Int) == (b.toNat : Int)) = (a == b) := by
 rw [Bool.eq_iff_iff]; simp only [beq_iff_eq]
 exact ⟨fun e => UInt8.toNat.inj (by omega), fun e => by rw [e]⟩
theorem strA_snoc {xs : List (List UInt8)} {x : List UInt8} : strA xs ++ [AV.str x] = strA (xs ++ [x]) := by simp [strA]
theorem s_Cut (s : List UInt8) (m : UInt8) (hs : s.length ≤ 1000000000) : CallOk Tryz.prog 72 [.str s, .int .u8 m.toNat] (.sl 9 (strA (splitM m s)) [] false) [] := by
  (refine callOk_of_wpc (W := fun _ => false) false hm' Tryz.func72 rfl (by kernel_rfl) (Nat.le_of_ble_eq_true rfl) (go_start ?_); generalize hQ : Post Tryz.prog Tryz.f72 _ _ _ _ _ = Q; simp only [stIn, matL, matA, st00])
  simp (disch := omega) only [go_sem, ↓k_cond, ↓x_idx, ↓k_block, Nat.reduceEqDiff, Nat.reduceBEq, ↓reduceIte, reduceCtorEq]
  obtain ⟨R, hR⟩ : ∃ R : Nat × Nat × List (List UInt8) → St → Prop, R = fun p st => st.fr 0 = .str s ∧ st.fr 1 = .int .u8 m.toNat ∧ st.fr 5 = .ref 0 p.2.2.length 0 p.2.2.length ∧ st.fr 6 = .int .i64 p.2.1 ∧ st.fr 7 = .int .i64 p.1 ∧ (∃ ex, st.h 0 = ⟨9, strA p.2.2, ex, true, true⟩) ∧ p.2.2.length ≤ p.1 ∧
      ((p.2.1 ≤ p.1 ∧ p.1 ≤ s.length ∧ p.2.2 ++ splitM m (s.drop p.2.1) = splitM m s ∧ m ∉ (s.drop p.2.1).take (p.1 - p.2.1)) ∨ (p.1 = s.length + 1 ∧ p.2.2 = splitM m s)) := ⟨_, rfl⟩
  refine k_loop R (fun p => s.length + 1 - p.1) (0, 0, []) (by rw [hR]; exact ⟨(by simp [upd_app] <;> omega), (by simp [upd_app] <;> omega), (by simp [upd_app] <;> omega), (by simp [upd_app] <;> omega), (by simp [upd_app] <;> omega), ⟨true, by simp [upd_app, strA]⟩, by simp, .inl ⟨by simp, by simp, by simp, by simp⟩⟩) ?_
  rintro ⟨i, f, out⟩ ⟨fr, h, nx⟩ hst J hJ
  rw [hR] at hst
  obtain ⟨g0, g1, g5, g6, g7, ⟨ex, hm⟩, hol, hcase⟩ := hst
  simp only at g0 g1 g5 g6 g7 hm hol hcase
  rcases hcase with ⟨hf, hi, hsp, hnm⟩ | ⟨hi, hsp⟩
  · have hfin : ∀ (st : St) (f' : Nat) (out' : List (List UInt8)), st.fr 0 = .str s → st.fr 1 = .int .u8 m.toNat → st.fr 5 = .ref 0 out'.length 0 out'.length → st.fr 6 = .int .i64 f' → st.fr 7 = .int .i64 ((i + 1 : Nat) : Int) → (∃ ex, st.h 0 = ⟨9, strA out', ex, true, true⟩) → out'.length ≤ i + 1 →
        ((f' ≤ i + 1 ∧ i + 1 ≤ s.length ∧ out' ++ splitM m (s.drop f') = splitM m s ∧ m ∉ (s.drop f').take (i + 1 - f')) ∨ (i + 1 = s.length + 1 ∧ out' = splitM m s)) → J st := fun st f' out' r0 r1 r5 r6 r7 rh rl rc =>
      hJ (i + 1, f', out') st (by rw [hR]; exact ⟨r0, r1, r5, r6, r7, rh, rl, rc⟩) (by simp only; omega)
    clear hJ hR hQ
    have hml : (strA out).length = out.length := strA_length out
    by_cases hie : i = s.length
    · subst hie
      have hseg : (s.take s.length).drop f = s.drop f := by rw [List.take_length]
      rw [List.take_of_length_le (by simp)] at hnm
      simp (disch := omega) only [go_sem, ↓k_cond, ↓x_idx, ↓k_block, Nat.reduceEqDiff, Nat.reduceBEq, ↓reduceIte, reduceCtorEq, g0, g1, g5, g6, g7, hm, hml, hseg, reach, List.length_cons, List.length_nil, strA_snoc]
      refine hfin _ (s.length + 1) (out ++ [s.drop f]) (by simp [upd_app, g0] <;> omega) (by simp [upd_app, g1] <;> omega) (by simp [upd_app]) (by simp [upd_app] <;> omega) (by simp [upd_app] <;> omega) ⟨false, by simp [upd_app]⟩ (by simp; omega) (.inr ⟨rfl, ?_⟩)
      rw [← hsp, splitM_end hnm]
    · obtain ⟨c, hc⟩ := get_some (xs := s) (i := i) (by omega)
      have hcm := u8_eq (a := c) (b := m)
      have hsegl : (s.drop f).take (i - f) = (s.take i).drop f := by rw [List.drop_take]
      by_cases hcmm : c = m
      · subst hcmm
        rw [beq_self_eq_true] at hcm
        have hpart : s.drop f = (s.take i).drop f ++ c :: s.drop (i + 1) := by
          rw [← hsegl, ← drop_cons hc]
          conv => lhs; rw [← List.take_append_drop (i - f) (s.drop f), List.drop_drop, show f + (i - f) = i by omega]
        simp (disch := omega) only [go_sem, ↓k_cond, ↓x_idx, ↓k_block, Nat.reduceEqDiff, Nat.reduceBEq, ↓reduceIte, reduceCtorEq, g0, g1, g5, g6, g7, hc, hm, hml, reach, List.length_cons, List.length_nil, strA_snoc]
        refine hfin _ (i + 1) (out ++ [(s.take i).drop f]) (by simp [upd_app, g0] <;> omega) (by simp [upd_app, g1] <;> omega) (by simp [upd_app]) (by simp [upd_app] <;> omega) (by simp [upd_app] <;> omega) ⟨false, by simp [upd_app]⟩ (by simp; omega) (.inl ⟨by omega, by omega, ?_, by simp⟩)
        rw [← hsp, hpart, splitM_seg (by rw [← hsegl]; exact hnm)]; simp
      · have hne : (c == m) = false := by simpa using hcmm
        rw [hne] at hcm
        simp (disch := omega) only [go_sem, ↓k_cond, ↓x_idx, ↓k_block, Nat.reduceEqDiff, Nat.reduceBEq, ↓reduceIte, reduceCtorEq, g0, g1, g5, g6, g7, hc, hcm]
        refine hfin _ f out (by simp [upd_app, g0] <;> omega) (by simp [upd_app, g1] <;> omega) (by simp [upd_app, g5] <;> omega) (by simp [upd_app, g6] <;> omega) (by simp [upd_app] <;> omega) ⟨ex, by simpa [upd_app] using hm⟩ (by omega) (.inl ⟨by omega, by omega, hsp, ?_⟩)
        rw [show i + 1 - f = (i - f) + 1 by omega, List.take_add_one, List.getElem?_drop, show f + (i - f) = i by omega, hc]
        simp only [List.mem_append, not_or]
        exact ⟨hnm, by simpa using fun e => hcmm e.symm⟩
  · subst hsp
    have hlen := splitM_len m s
    clear hJ hR
    simp (disch := omega) only [go_sem, ↓k_cond, ↓x_idx, ↓k_block, Nat.reduceEqDiff, Nat.reduceBEq, ↓reduceIte, reduceCtorEq, g0, g1, g5, g6, g7, hi]
    rw [← hQ]
    have hfz := snap_frozen (st := ⟨fr, h, nx⟩) (d := 7) (id := 0) (n := (splitM m s).length) (off := 0) (len := (splitM m s).length) (T := 9) (r := strA (splitM m s)) (by simp [hm]) (by simp [hm, strA_length]) (by simp [hm]) (by simp) (by simp [hm]; exact List.take_of_length_le (by simp [strA_length])) (strA_pure _)
    exact post_frozen (id := 0) (n := (splitM m s).length) (off := 0) (len := (splitM m s).length) (.inl rfl) rfl (by simp [upd_app] <;> omega) (by simp [hm]) (by simp [hm, strA_length]) (by simp [hm]) (by simp) (Nat.zero_le _) (by simp [hm]; exact List.take_of_length_le (by simp [strA_length])) (strA_pure _)
theorem c_Parse : callable Tryz.prog 37 = true := by kernel_rfl
def bodyQ (s : List UInt8) : List UInt8 := if headB 45 s = true then s.tail else s
theorem parseQ_alt (s : List UInt8) : headB 45 (firstQ s) = headB 45 s ∧ digsQ s = firstQ (bodyQ s) ∧ ((findB 47 s = none ∧ findB 47 (bodyQ s) = none) ∨ ∃ i j, findB 47 s = some i ∧ findB 47 (bodyQ s) = some j ∧ s.drop (i + 1) = (bodyQ s).drop (j + 1)) := by
  cases s with
  | nil => simp [firstQ, findB, headB, digsQ, bodyQ]
  | cons c cs =>
    by_cases hc : c = 45
    · subst hc
      have e1 : findB 47 (45 :: cs) = (findB 47 cs).map (· + 1) := by simp [findB]
      have e2 : bodyQ (45 :: cs) = cs := by simp [bodyQ, headB]
      rw [e2, e1]
      cases hf : findB 47 cs with
      | none => simp [firstQ, e1, hf, headB, digsQ]
      | some j => simp [firstQ, e1, hf, headB, digsQ]
    · have e2 : bodyQ (c :: cs) = c :: cs := by simp [bodyQ, headB, hc]
      have e3 : headB 45 (c :: cs) = false := by simp [headB, hc]
      rw [e2, e3]
      have e4 : headB 45 (firstQ (c :: cs)) = false := by
        simp only [firstQ]
        cases hf : findB 47 (c :: cs) with
        | none => exact e3
        | some i => cases i with
          | zero => simp [headB]
          | succ i => simp [headB, hc]
      refine ⟨e4, by simp [digsQ, e4], ?_⟩
      cases hf : findB 47 (c :: cs) with
      | none => exact .inl ⟨rfl, rfl⟩
      | some i => exact .inr ⟨i, i, rfl, rfl, rfl⟩
theorem splitM_find (s : List UInt8) : (findB 47 s = none ∧ splitM 47 s = [s]) ∨ ∃ j, findB 47 s = some j ∧ splitM 47 s = s.take j :: splitM 47 (s.drop (j + 1)) := by
 cases hf : findB 47 s with
 | none => exact .inl ⟨rfl, splitM_end (findB_none hf)⟩
 | some j =>
  obtain ⟨h1, h2, h3⟩ := findB_lt hf
  refine .inr ⟨j, rfl, ?_⟩
  have : s = s.take j ++ 47 :: s.drop (j + 1) := by rw [← drop_cons h2, List.take_append_drop]
  conv => lhs; rw [this, splitM_seg h3]
theorem tok_noslash {s : List UInt8} (h : tokD s = true) : findB 47 s = none := by
 cases hf : findB 47 s with
 | none => rfl
 | some j =>
  obtain ⟨h1, h2, h3⟩ := findB_lt hf
  have := (tok_len h).2.2 47 (List.mem_of_getElem? h2)
  simp [isDig] at this
def ratS (q : Qd) : AV := .agg [.bool q.1, natS q.2.1, natS q.2.2]
@[simp] theorem ratS_pure (q : Qd) : (ratS q).pure = true := by simp [ratS, AV.pure, AV.pureL]
def parseV (s : List UInt8) : AV := match parseQ s with | some q => .tup [ratS q, .bool true] | none => .tup [zrI, .bool false]
theorem el_sRatS {b : Bool} {t t' : Nat} {xs sp xs' sp' : List AV} {ex ex' : Bool} : AV.el Tryz.prog 39 (.agg [.bool b, .sl t xs sp ex, .sl t' xs' sp' ex']) = true := by simp [AV.el, s_sRat, AV.cells, AV.one]
theorem el_sRat0 {b : Bool} : AV.el Tryz.prog 39 (.agg [.bool b, .nil, .nil]) = true := by simp [AV.el, s_sRat, AV.cells, AV.one]
theorem el_int64S {t : Nat} {xs sp : List AV} {ex : Bool} : AV.el Tryz.prog 37 (.sl t xs sp ex) = true := by simp [AV.el, s_int64s, AV.cells, AV.one]
theorem ld_sRat {b c d : AV} : ldA Tryz.prog 39 (.agg [b, c, d]) 0 = some (.agg [b, c, d]) := by simp [ldA, partA, g_sRat, s_sRat, AV.cells]
attribute [go_sem] el_sRatS el_sRat0 el_int64S ld_sRat
theorem oneS : natS 1 = .sl 2 [.int .i64 1] [] false := by
 rw [natS, enc_pos B9_gt (by decide), show 1 / B9 = 0 from rfl, enc_zero]; rfl

theorem s_Parse (s : List UInt8) (hs : s.length ≤ 1000000) : CallOk Tryz.prog 37 [.str s] (parseV s) [] := by
  obtain ⟨hneg, hdg, hfind⟩ := parseQ_alt s
  have hpq : parseQ s = if tokD (firstQ (bodyQ s)) = true ∧ ¬ (headB 45 s = true ∧ dval (firstQ (bodyQ s)) = 0) then
    match findB 47 (bodyQ s) with
    | none => some (headB 45 s, dval (firstQ (bodyQ s)), 1)
    | some i => if tokD ((bodyQ s).drop (i + 1)) = true ∧ 1 < dval ((bodyQ s).drop (i + 1)) ∧ Nat.gcd (dval (firstQ (bodyQ s))) (dval ((bodyQ s).drop (i + 1))) = 1 then some (headB 45 s, dval (firstQ (bodyQ s)), dval ((bodyQ s).drop (i + 1))) else none
  else none := by
    rw [parseQ, hneg, hdg]
    rcases hfind with ⟨a, b⟩ | ⟨i, j, a, b, c⟩
    · simp only [a, b]
    · simp only [a, b, c]
  clear hneg hdg hfind
  obtain ⟨B, hB⟩ : ∃ B, bodyQ s = B := ⟨_, rfl⟩
  have hBl : B.length ≤ s.length := by rw [← hB]; unfold bodyQ; split <;> simp
  have hCut := s_Cut B 47 (by omega)
  obtain ⟨D, hD⟩ : ∃ D, firstQ B = D := ⟨_, rfl⟩
  have hDl : D.length ≤ B.length := by rw [← hD]; unfold firstQ; split <;> simp; omega
  have hsplit := splitM_find B
  obtain ⟨P1, hP1, hP⟩ : ∃ P1, splitM 47 B = D :: P1 ∧ ((findB 47 B = none ∧ P1 = []) ∨ ∃ j, findB 47 B = some j ∧ P1 = splitM 47 (B.drop (j + 1))) := by
    rcases hsplit with ⟨a, b⟩ | ⟨j, a, b⟩
    · exact ⟨[], by rw [b, ← hD, firstQ, a], .inl ⟨a, rfl⟩⟩
    · exact ⟨_, by rw [b, ← hD, firstQ, a], .inr ⟨j, a, rfl⟩⟩
  rw [hP1] at hCut
  rw [hB, hD] at hpq
  have hdig := s_Digits D (by omega)
  have e0 : [AV.bool false, AV.nil, AV.nil].length = 3 := rfl
  have hfail : ∀ (st : St), st.fr 2 = .ptr 0 1 0 0 → (st.h 0).lv = true → (st.h 0).xs = [zrI] → st.fr 3 = .bool false → parseQ s = none → Post Tryz.prog Tryz.f37 (matL false [AV.str s] st00).2.nx (AV.flatL [AV.str s]) false (parseV s) [] .ret st := by
    intro st k2 kl kx k3 hp
    rw [parseV, hp]
    exact post_cell (x := zrI) (.inl rfl) rfl o_sRat k2 kl kx ld_sRat k3 rfl rfl
  have hgood : ∀ (st : St) (b : Bool) (x y : AV) (q : Qd), st.fr 2 = .ptr 0 1 0 0 → (st.h 0).lv = true → (st.h 0).xs = [.agg [.bool b, x, y]] → st.fr 3 = .bool true → x.pure = true → y.pure = true → Post Tryz.prog Tryz.f37 (matL false [AV.str s] st00).2.nx (AV.flatL [AV.str s]) false (.tup [.agg [.bool b, x, y], .bool true]) [] .ret st := by
    intro st b x y q k2 kl kx k3 hx hy
    exact post_cell (x := .agg [.bool b, x, y]) (.inl rfl) rfl o_sRat k2 kl kx ld_sRat k3 (by simp [AV.pure, AV.pureL, hx, hy]) rfl
  have hp0 : (D :: P1)[Int.toNat 0]? = some D := rfl
  by_cases hsnil : s = []
  · have hBn : B = [] := by rw [← hB, hsnil]; rfl
    have hDn : D = [] := by rw [← hD, hBn]; rfl
    have hPn : P1 = [] := by rw [hBn] at hP; rcases hP with ⟨_, h⟩ | ⟨j, h, _⟩; exact h; simp [findB] at h
    have htd : tokD D = false := by rw [hDn]; rfl
    rw [htd] at hpq hdig
    simp only [Bool.false_eq_true, false_and, if_false] at hpq
    have hsl : s.length = 0 := by rw [hsnil]; rfl
    rw [hBn, ← hsnil] at hCut
    (refine callOk_of_wpc (W := fun _ => false) false hm' Tryz.func37 rfl (by kernel_rfl) (Nat.le_of_ble_eq_true rfl) (go_start ?_); generalize hQ : Post Tryz.prog Tryz.f37 _ _ _ _ _ = Q; simp only [stIn, matL, matA, st00])
    simp (disch := omega) only [go_sem, ↓k_cond, ↓x_idx, ↓k_block, Nat.reduceEqDiff, Nat.reduceBEq, ↓reduceIte, reduceCtorEq, zrI, e0, hsl]
    refine x_callP (hCut) c_sCut01 (by simp [evA, upd_app, ofVal, ofCell]) (by simp [AV.pure, AV.pureL, natA_pure, natI_pure, natS_pure]) (by simp [AV.pure, AV.pureL, natA_pure, natI_pure, natS_pure]) ?_
    simp (disch := omega) only [go_sem, ↓k_cond, ↓x_idx, ↓k_block, Nat.reduceEqDiff, Nat.reduceBEq, ↓reduceIte, reduceCtorEq, strA_length, strA_at, hp0, hPn, List.length_cons, List.length_nil]
    rw [hPn] at hp0
    refine x_callP (hdig) c_Digits (by simp [evA, upd_app, ofVal, ofCell]) (by simp [AV.pure, AV.pureL, natA_pure, natI_pure, natS_pure]) (by simp [AV.pure, AV.pureL, natA_pure, natI_pure, natS_pure]) ?_
    simp (disch := omega) only [go_sem, ↓k_cond, ↓x_idx, ↓k_block, Nat.reduceEqDiff, Nat.reduceBEq, ↓reduceIte, reduceCtorEq, e0, List.set_cons_zero]
    rw [← hQ]
    exact hfail _ (by simp [upd_app] <;> omega) (by simp [upd_app]) (by simp [upd_app, zrI]) (by simp [upd_app] <;> omega) hpq
  have hl0 : 0 < s.length := List.length_pos_iff.2 hsnil
  obtain ⟨c0, hc0⟩ := get_some (xs := s) (i := 0) hl0
  have hc0' : s[Int.toNat 0]? = some c0 := hc0
  have hhead : s.head? = some c0 := by rw [List.head?_eq_getElem?]; exact hc0
  have hcb := c0.toNat_lt
  -- what comes behind the sign
  have htk : tokD D = true → (enc B9 (dval D)).length ≤ 200 := fun h => by
    obtain ⟨_, b, c⟩ := tok_len h
    exact Nat.le_trans (dval_enc (by decide) c) b
  have he1 : (enc B9 1).length ≤ 1 := enc_len_le B9_gt (by decide)
  by_cases h45 : c0.toNat = 45
  · have hc45 : c0 = 45 := UInt8.toNat.inj (by rw [h45]; rfl)
    have hng : headB 45 s = true := by simp [headB, hhead, hc45]
    have hsl : (s.take s.length).drop 1 = B := by rw [← hB, bodyQ, hng, List.take_length]; simp
    have hst : s.tail = B := by rw [← hsl, List.take_length]; simp
    rw [hng] at hpq
    simp only [true_and] at hpq
    cases hP1c : decide (2 ≤ P1.length) with
    | true =>
      have hP2 : 2 ≤ P1.length := by simpa using hP1c
      have hnone : parseQ s = none := by
        rw [hpq]
        rcases hP with ⟨_, h⟩ | ⟨j, h1, h2⟩
        · rw [h] at hP2; simp at hP2
        · have : tokD (B.drop (j + 1)) = false := by
            cases ht : tokD (B.drop (j + 1)) with
            | false => rfl
            | true =>
              rcases splitM_find (B.drop (j + 1)) with ⟨_, e⟩ | ⟨k, e, _⟩
              · rw [h2, e] at hP2; simp at hP2
              · rw [tok_noslash ht] at e; cases e
          simp only [h1, this, Bool.false_eq_true, false_and, if_false, ite_self]
      (refine callOk_of_wpc (W := fun _ => false) false hm' Tryz.func37 rfl (by kernel_rfl) (Nat.le_of_ble_eq_true rfl) (go_start ?_); generalize hQ : Post Tryz.prog Tryz.f37 _ _ _ _ _ = Q; simp only [stIn, matL, matA, st00])
      simp (disch := omega) only [go_sem, ↓k_cond, ↓x_idx, ↓k_block, Nat.reduceEqDiff, Nat.reduceBEq, ↓reduceIte, reduceCtorEq, zrI, e0, hc0', h45, hsl]
      refine x_callP (hCut) c_sCut01 (by simp [evA, upd_app, ofVal, ofCell, hst]) (by simp [AV.pure, AV.pureL, natA_pure, natI_pure, natS_pure]) (by simp [AV.pure, AV.pureL, natA_pure, natI_pure, natS_pure]) ?_
      simp (disch := omega) only [go_sem, ↓k_cond, ↓x_idx, ↓k_block, Nat.reduceEqDiff, Nat.reduceBEq, ↓reduceIte, reduceCtorEq, strA_length, List.length_cons, e0]
      rw [← hQ]
      exact hfail _ (by simp [upd_app] <;> omega) (by simp [upd_app]) (by simp [upd_app, zrI]) (by simp [upd_app] <;> omega) hnone
    | false =>
      have hP2 : P1.length ≤ 1 := by simp at hP1c; omega
      cases htd : tokD D with
      | false =>
        rw [htd] at hpq hdig
        simp only [Bool.false_eq_true, false_and, if_false] at hpq
        (refine callOk_of_wpc (W := fun _ => false) false hm' Tryz.func37 rfl (by kernel_rfl) (Nat.le_of_ble_eq_true rfl) (go_start ?_); generalize hQ : Post Tryz.prog Tryz.f37 _ _ _ _ _ = Q; simp only [stIn, matL, matA, st00])
        simp (disch := omega) only [go_sem, ↓k_cond, ↓x_idx, ↓k_block, Nat.reduceEqDiff, Nat.reduceBEq, ↓reduceIte, reduceCtorEq, zrI, e0, hc0', h45, hsl]
        refine x_callP (hCut) c_sCut01 (by simp [evA, upd_app, ofVal, ofCell, hst]) (by simp [AV.pure, AV.pureL, natA_pure, natI_pure, natS_pure]) (by simp [AV.pure, AV.pureL, natA_pure, natI_pure, natS_pure]) ?_
        simp (disch := omega) only [go_sem, ↓k_cond, ↓x_idx, ↓k_block, Nat.reduceEqDiff, Nat.reduceBEq, ↓reduceIte, reduceCtorEq, strA_length, strA_at, hp0, List.length_cons]
        refine x_callP (hdig) c_Digits (by simp [evA, upd_app, ofVal, ofCell]) (by simp [AV.pure, AV.pureL, natA_pure, natI_pure, natS_pure]) (by simp [AV.pure, AV.pureL, natA_pure, natI_pure, natS_pure]) ?_
        simp (disch := omega) only [go_sem, ↓k_cond, ↓x_idx, ↓k_block, Nat.reduceEqDiff, Nat.reduceBEq, ↓reduceIte, reduceCtorEq, e0]
        rw [← hQ]
        exact hfail _ (by simp [upd_app] <;> omega) (by simp [upd_app]) (by simp [upd_app, zrI]) (by simp [upd_app] <;> omega) hpq
      | true =>
        have htl := htk htd
        rw [htd] at hpq hdig
        simp only [true_and, if_true] at hpq
        have hNR := s_NatRead D (tok_len htd).2.2 (by omega)
        obtain ⟨v, hv⟩ : ∃ v, dval D = v := ⟨_, rfl⟩
        rw [hv] at hNR hpq htl
        by_cases hv0 : v = 0
        · subst hv0
          simp only [not_true_eq_false, if_false] at hpq
          have hz : (enc B9 0).length = 0 := by rw [enc_zero]; rfl
          (refine callOk_of_wpc (W := fun _ => false) false hm' Tryz.func37 rfl (by kernel_rfl) (Nat.le_of_ble_eq_true rfl) (go_start ?_); generalize hQ : Post Tryz.prog Tryz.f37 _ _ _ _ _ = Q; simp only [stIn, matL, matA, st00])
          simp (disch := omega) only [go_sem, ↓k_cond, ↓x_idx, ↓k_block, Nat.reduceEqDiff, Nat.reduceBEq, ↓reduceIte, reduceCtorEq, zrI, e0, hc0', h45, hsl]
          refine x_callP (hCut) c_sCut01 (by simp [evA, upd_app, ofVal, ofCell, hst]) (by simp [AV.pure, AV.pureL, natA_pure, natI_pure, natS_pure]) (by simp [AV.pure, AV.pureL, natA_pure, natI_pure, natS_pure]) ?_
          simp (disch := omega) only [go_sem, ↓k_cond, ↓x_idx, ↓k_block, Nat.reduceEqDiff, Nat.reduceBEq, ↓reduceIte, reduceCtorEq, strA_length, strA_at, hp0, List.length_cons]
          refine x_callP (hdig) c_Digits (by simp [evA, upd_app, ofVal, ofCell]) (by simp [AV.pure, AV.pureL, natA_pure, natI_pure, natS_pure]) (by simp [AV.pure, AV.pureL, natA_pure, natI_pure, natS_pure]) ?_
          simp (disch := omega) only [go_sem, ↓k_cond, ↓x_idx, ↓k_block, Nat.reduceEqDiff, Nat.reduceBEq, ↓reduceIte, reduceCtorEq, strA_length, strA_at, hp0, List.length_cons]
          refine x_callP (hNR) c_NatRead (by simp [evA, upd_app, ofVal, ofCell]) (by simp [AV.pure, AV.pureL, natA_pure, natI_pure, natS_pure]) (by simp [AV.pure, AV.pureL, natA_pure, natI_pure, natS_pure]) ?_
          simp (disch := omega) only [go_sem, ↓k_cond, ↓x_idx, ↓k_block, Nat.reduceEqDiff, Nat.reduceBEq, ↓reduceIte, reduceCtorEq, natS, hz, e0]
          rw [← hQ]
          exact hfail _ (by simp [upd_app] <;> omega) (by simp [upd_app]) (by simp [upd_app, zrI]) (by simp [upd_app] <;> omega) hpq
        rw [if_pos hv0] at hpq
        have hvp := enc_len_pos B9_gt hv0
        rcases hP with ⟨hf, rfl⟩ | ⟨j, hf, hPj⟩
        · rw [hf] at hpq
          simp only at hpq
          have hres : parseV s = .tup [ratS (true, v, 1), .bool true] := by rw [parseV, hpq]
          rw [hres]
          refine CallOk.res (r := .tup [.agg [.bool true, natS v, .sl 2 [.int .i64 1] [] true], .bool true]) ?_ (sub_tup (SubL.cons (sub_agg (SubL.cons (Sub.refl _) (SubL.cons (Sub.refl _) (SubL.cons (by rw [oneS]; exact sub_sl) .nil)))) (SubL.refl _)))
          (refine callOk_of_wpc (W := fun _ => false) false hm' Tryz.func37 rfl (by kernel_rfl) (Nat.le_of_ble_eq_true rfl) (go_start ?_); generalize hQ : Post Tryz.prog Tryz.f37 _ _ _ _ _ = Q; simp only [stIn, matL, matA, st00])
          simp (disch := omega) only [go_sem, ↓k_cond, ↓x_idx, ↓k_block, Nat.reduceEqDiff, Nat.reduceBEq, ↓reduceIte, reduceCtorEq, zrI, e0, hc0', h45, hsl]
          refine x_callP (hCut) c_sCut01 (by simp [evA, upd_app, ofVal, ofCell, hst]) (by simp [AV.pure, AV.pureL, natA_pure, natI_pure, natS_pure]) (by simp [AV.pure, AV.pureL, natA_pure, natI_pure, natS_pure]) ?_
          simp (disch := omega) only [go_sem, ↓k_cond, ↓x_idx, ↓k_block, Nat.reduceEqDiff, Nat.reduceBEq, ↓reduceIte, reduceCtorEq, strA_length, strA_at, hp0, List.length_cons]
          refine x_callP (hdig) c_Digits (by simp [evA, upd_app, ofVal, ofCell]) (by simp [AV.pure, AV.pureL, natA_pure, natI_pure, natS_pure]) (by simp [AV.pure, AV.pureL, natA_pure, natI_pure, natS_pure]) ?_
          simp (disch := omega) only [go_sem, ↓k_cond, ↓x_idx, ↓k_block, Nat.reduceEqDiff, Nat.reduceBEq, ↓reduceIte, reduceCtorEq, strA_length, strA_at, hp0, List.length_cons]
          refine x_callP (hNR) c_NatRead (by simp [evA, upd_app, ofVal, ofCell]) (by simp [AV.pure, AV.pureL, natA_pure, natI_pure, natS_pure]) (by simp [AV.pure, AV.pureL, natA_pure, natI_pure, natS_pure]) ?_
          simp (disch := omega) only [go_sem, ↓k_cond, ↓x_idx, ↓k_block, Nat.reduceEqDiff, Nat.reduceBEq, ↓reduceIte, reduceCtorEq, natS, List.length_cons, List.length_nil, e0]
          rw [← hQ]
          exact hgood _ true (natS v) (.sl 2 [.int .i64 1] [] true) (true, v, 1) (by simp [upd_app] <;> omega) (by simp [upd_app]) (by simp [upd_app, natS]) (by simp [upd_app] <;> omega) (by simp) rfl
        · rw [hf] at hpq
          simp only at hpq
          obtain ⟨e, he⟩ : ∃ e, B.drop (j + 1) = e := ⟨_, rfl⟩
          rw [he] at hpq hPj
          have hel : e.length ≤ B.length := by rw [← he]; simp
          have hPe : P1 = [e] := by
            rcases splitM_find e with ⟨_, h⟩ | ⟨k, _, h⟩
            · rw [hPj, h]
            · exfalso
              rw [hPj, h] at hP2
              have := splitM_ne 47 (e.drop (k + 1))
              cases hs' : splitM 47 (e.drop (k + 1)) with
              | nil => exact this hs'
              | cons a b => rw [hs'] at hP2; simp at hP2
          subst hPe
          have hp1 : [D, e][Int.toNat 1]? = some e := rfl
          have hdig2 := s_Digits e (by omega)
          cases hte : tokD e with
          | false =>
            rw [hte] at hpq hdig2
            simp only [Bool.false_eq_true, false_and, if_false] at hpq
            (refine callOk_of_wpc (W := fun _ => false) false hm' Tryz.func37 rfl (by kernel_rfl) (Nat.le_of_ble_eq_true rfl) (go_start ?_); generalize hQ : Post Tryz.prog Tryz.f37 _ _ _ _ _ = Q; simp only [stIn, matL, matA, st00])
            simp (disch := omega) only [go_sem, ↓k_cond, ↓x_idx, ↓k_block, Nat.reduceEqDiff, Nat.reduceBEq, ↓reduceIte, reduceCtorEq, zrI, e0, hc0', h45, hsl]
            refine x_callP (hCut) c_sCut01 (by simp [evA, upd_app, ofVal, ofCell, hst]) (by simp [AV.pure, AV.pureL, natA_pure, natI_pure, natS_pure]) (by simp [AV.pure, AV.pureL, natA_pure, natI_pure, natS_pure]) ?_
            simp (disch := omega) only [go_sem, ↓k_cond, ↓x_idx, ↓k_block, Nat.reduceEqDiff, Nat.reduceBEq, ↓reduceIte, reduceCtorEq, strA_length, strA_at, hp0, List.length_cons]
            refine x_callP (hdig) c_Digits (by simp [evA, upd_app, ofVal, ofCell]) (by simp [AV.pure, AV.pureL, natA_pure, natI_pure, natS_pure]) (by simp [AV.pure, AV.pureL, natA_pure, natI_pure, natS_pure]) ?_
            simp (disch := omega) only [go_sem, ↓k_cond, ↓x_idx, ↓k_block, Nat.reduceEqDiff, Nat.reduceBEq, ↓reduceIte, reduceCtorEq, strA_length, strA_at, hp0, List.length_cons]
            refine x_callP (hNR) c_NatRead (by simp [evA, upd_app, ofVal, ofCell]) (by simp [AV.pure, AV.pureL, natA_pure, natI_pure, natS_pure]) (by simp [AV.pure, AV.pureL, natA_pure, natI_pure, natS_pure]) ?_
            simp (disch := omega) only [go_sem, ↓k_cond, ↓x_idx, ↓k_block, Nat.reduceEqDiff, Nat.reduceBEq, ↓reduceIte, reduceCtorEq, natS, List.length_cons, List.length_nil, strA_length, strA_at, hp1]
            refine x_callP (hdig2) c_Digits (by simp [evA, upd_app, ofVal, ofCell]) (by simp [AV.pure, AV.pureL, natA_pure, natI_pure, natS_pure]) (by simp [AV.pure, AV.pureL, natA_pure, natI_pure, natS_pure]) ?_
            simp (disch := omega) only [go_sem, ↓k_cond, ↓x_idx, ↓k_block, Nat.reduceEqDiff, Nat.reduceBEq, ↓reduceIte, reduceCtorEq, e0]
            rw [← hQ]
            exact hfail _ (by simp [upd_app] <;> omega) (by simp [upd_app]) (by simp [upd_app, zrI]) (by simp [upd_app] <;> omega) hpq
          | true =>
            have htl2 : (enc B9 (dval e)).length ≤ 200 := by
              obtain ⟨_, b, c⟩ := tok_len hte
              exact Nat.le_trans (dval_enc (by decide) c) b
            rw [hte] at hpq hdig2
            simp only [true_and] at hpq
            have hNR2 := s_NatRead e (tok_len hte).2.2 (by omega)
            obtain ⟨u, hu⟩ : ∃ u, dval e = u := ⟨_, rfl⟩
            rw [hu] at hNR2 hpq htl2
            have hcmp := (s_Cmp hm' u 1 (by omega) (by omega)).args (SubL.cons (Sub.refl _) (SubL.cons (show Sub Tryz.prog (.sl 2 [.int .i64 1] [] true) (natS 1) by rw [oneS]; exact sub_sl) .nil))
            have hgcd := s_Gcd v u (by omega) (by omega)
            by_cases hu1 : 1 < u
            · rw [cmpI_gt hu1] at hcmp
              obtain ⟨g, hg⟩ : ∃ g, Nat.gcd v u = g := ⟨_, rfl⟩
              rw [hg] at hgcd
              simp only [hg, hu1, true_and] at hpq
              have hgu : g ≤ u := by rw [← hg]; exact Nat.gcd_le_right v (by omega)
              have hgl := enc_len_mono B9_gt hgu
              have hcg := (s_Cmp hm' g 1 (by omega) (by omega)).args (SubL.cons (Sub.refl _) (SubL.cons (show Sub Tryz.prog (.sl 2 [.int .i64 1] [] true) (natS 1) by rw [oneS]; exact sub_sl) .nil))
              by_cases hg1 : g = 1
              · subst hg1
                rw [cmpI_eq] at hcg
                simp only [if_true] at hpq
                have hres : parseV s = .tup [ratS (true, v, u), .bool true] := by rw [parseV, hpq]
                rw [hres]
                (refine callOk_of_wpc (W := fun _ => false) false hm' Tryz.func37 rfl (by kernel_rfl) (Nat.le_of_ble_eq_true rfl) (go_start ?_); generalize hQ : Post Tryz.prog Tryz.f37 _ _ _ _ _ = Q; simp only [stIn, matL, matA, st00])
                simp (disch := omega) only [go_sem, ↓k_cond, ↓x_idx, ↓k_block, Nat.reduceEqDiff, Nat.reduceBEq, ↓reduceIte, reduceCtorEq, zrI, e0, hc0', h45, hsl]
                refine x_callP (hCut) c_sCut01 (by simp [evA, upd_app, ofVal, ofCell, hst]) (by simp [AV.pure, AV.pureL, natA_pure, natI_pure, natS_pure]) (by simp [AV.pure, AV.pureL, natA_pure, natI_pure, natS_pure]) ?_
                simp (disch := omega) only [go_sem, ↓k_cond, ↓x_idx, ↓k_block, Nat.reduceEqDiff, Nat.reduceBEq, ↓reduceIte, reduceCtorEq, strA_length, strA_at, hp0, List.length_cons]
                refine x_callP (hdig) c_Digits (by simp [evA, upd_app, ofVal, ofCell]) (by simp [AV.pure, AV.pureL, natA_pure, natI_pure, natS_pure]) (by simp [AV.pure, AV.pureL, natA_pure, natI_pure, natS_pure]) ?_
                simp (disch := omega) only [go_sem, ↓k_cond, ↓x_idx, ↓k_block, Nat.reduceEqDiff, Nat.reduceBEq, ↓reduceIte, reduceCtorEq, strA_length, strA_at, hp0, List.length_cons]
                refine x_callP (hNR) c_NatRead (by simp [evA, upd_app, ofVal, ofCell]) (by simp [AV.pure, AV.pureL, natA_pure, natI_pure, natS_pure]) (by simp [AV.pure, AV.pureL, natA_pure, natI_pure, natS_pure]) ?_
                simp (disch := omega) only [go_sem, ↓k_cond, ↓x_idx, ↓k_block, Nat.reduceEqDiff, Nat.reduceBEq, ↓reduceIte, reduceCtorEq, natS, List.length_cons, List.length_nil, strA_length, strA_at, hp1]
                refine x_callP (hdig2) c_Digits (by simp [evA, upd_app, ofVal, ofCell]) (by simp [AV.pure, AV.pureL, natA_pure, natI_pure, natS_pure]) (by simp [AV.pure, AV.pureL, natA_pure, natI_pure, natS_pure]) ?_
                simp (disch := omega) only [go_sem, ↓k_cond, ↓x_idx, ↓k_block, Nat.reduceEqDiff, Nat.reduceBEq, ↓reduceIte, reduceCtorEq, strA_length, strA_at, hp1]
                refine x_callP (hNR2) c_NatRead (by simp [evA, upd_app, ofVal, ofCell]) (by simp [AV.pure, AV.pureL, natA_pure, natI_pure, natS_pure]) (by simp [AV.pure, AV.pureL, natA_pure, natI_pure, natS_pure]) ?_
                simp (disch := omega) only [go_sem, ↓k_cond, ↓x_idx, ↓k_block, Nat.reduceEqDiff, Nat.reduceBEq, ↓reduceIte, reduceCtorEq, natS]
                refine x_callP hcmp c_Cmp (by simp [evA, upd_app, natS]) (by simp [AV.pureL, AV.pure]) rfl ?_
                simp (disch := omega) only [go_sem, ↓k_cond, ↓x_idx, ↓k_block, Nat.reduceEqDiff, Nat.reduceBEq, ↓reduceIte, reduceCtorEq, natS]
                refine x_callP hgcd c_Gcd (by simp [evA, upd_app, natS]) (by simp [AV.pureL]) (by simp) ?_
                simp (disch := omega) only [go_sem, ↓k_cond, ↓x_idx, ↓k_block, Nat.reduceEqDiff, Nat.reduceBEq, ↓reduceIte, reduceCtorEq, natS]
                refine x_callP hcg c_Cmp (by simp [evA, upd_app, natS]) (by simp [AV.pureL, AV.pure]) rfl ?_
                simp (disch := omega) only [go_sem, ↓k_cond, ↓x_idx, ↓k_block, Nat.reduceEqDiff, Nat.reduceBEq, ↓reduceIte, reduceCtorEq, natS, e0]
                rw [← hQ]
                exact hgood _ true (natS v) (natS u) (true, v, u) (by simp [upd_app] <;> omega) (by simp [upd_app]) (by simp [upd_app, natS]) (by simp [upd_app] <;> omega) (by simp) (by simp)
              · have hcn : cmpI g 1 ≠ 0 := by
                  rcases Nat.lt_trichotomy g 1 with h | h | h
                  · rw [cmpI_lt h]; decide
                  · exact absurd h hg1
                  · rw [cmpI_gt h]; decide
                rw [if_neg hg1] at hpq
                (refine callOk_of_wpc (W := fun _ => false) false hm' Tryz.func37 rfl (by kernel_rfl) (Nat.le_of_ble_eq_true rfl) (go_start ?_); generalize hQ : Post Tryz.prog Tryz.f37 _ _ _ _ _ = Q; simp only [stIn, matL, matA, st00])
                simp (disch := omega) only [go_sem, ↓k_cond, ↓x_idx, ↓k_block, Nat.reduceEqDiff, Nat.reduceBEq, ↓reduceIte, reduceCtorEq, zrI, e0, hc0', h45, hsl]
                refine x_callP (hCut) c_sCut01 (by simp [evA, upd_app, ofVal, ofCell, hst]) (by simp [AV.pure, AV.pureL, natA_pure, natI_pure, natS_pure]) (by simp [AV.pure, AV.pureL, natA_pure, natI_pure, natS_pure]) ?_
                simp (disch := omega) only [go_sem, ↓k_cond, ↓x_idx, ↓k_block, Nat.reduceEqDiff, Nat.reduceBEq, ↓reduceIte, reduceCtorEq, strA_length, strA_at, hp0, List.length_cons]
                refine x_callP (hdig) c_Digits (by simp [evA, upd_app, ofVal, ofCell]) (by simp [AV.pure, AV.pureL, natA_pure, natI_pure, natS_pure]) (by simp [AV.pure, AV.pureL, natA_pure, natI_pure, natS_pure]) ?_
                simp (disch := omega) only [go_sem, ↓k_cond, ↓x_idx, ↓k_block, Nat.reduceEqDiff, Nat.reduceBEq, ↓reduceIte, reduceCtorEq, strA_length, strA_at, hp0, List.length_cons]
                refine x_callP (hNR) c_NatRead (by simp [evA, upd_app, ofVal, ofCell]) (by simp [AV.pure, AV.pureL, natA_pure, natI_pure, natS_pure]) (by simp [AV.pure, AV.pureL, natA_pure, natI_pure, natS_pure]) ?_
                simp (disch := omega) only [go_sem, ↓k_cond, ↓x_idx, ↓k_block, Nat.reduceEqDiff, Nat.reduceBEq, ↓reduceIte, reduceCtorEq, natS, List.length_cons, List.length_nil, strA_length, strA_at, hp1]
                refine x_callP (hdig2) c_Digits (by simp [evA, upd_app, ofVal, ofCell]) (by simp [AV.pure, AV.pureL, natA_pure, natI_pure, natS_pure]) (by simp [AV.pure, AV.pureL, natA_pure, natI_pure, natS_pure]) ?_
                simp (disch := omega) only [go_sem, ↓k_cond, ↓x_idx, ↓k_block, Nat.reduceEqDiff, Nat.reduceBEq, ↓reduceIte, reduceCtorEq, strA_length, strA_at, hp1]
                refine x_callP (hNR2) c_NatRead (by simp [evA, upd_app, ofVal, ofCell]) (by simp [AV.pure, AV.pureL, natA_pure, natI_pure, natS_pure]) (by simp [AV.pure, AV.pureL, natA_pure, natI_pure, natS_pure]) ?_
                simp (disch := omega) only [go_sem, ↓k_cond, ↓x_idx, ↓k_block, Nat.reduceEqDiff, Nat.reduceBEq, ↓reduceIte, reduceCtorEq, natS]
                refine x_callP hcmp c_Cmp (by simp [evA, upd_app, natS]) (by simp [AV.pureL, AV.pure]) rfl ?_
                simp (disch := omega) only [go_sem, ↓k_cond, ↓x_idx, ↓k_block, Nat.reduceEqDiff, Nat.reduceBEq, ↓reduceIte, reduceCtorEq, natS]
                refine x_callP hgcd c_Gcd (by simp [evA, upd_app, natS]) (by simp [AV.pureL]) (by simp) ?_
                simp (disch := omega) only [go_sem, ↓k_cond, ↓x_idx, ↓k_block, Nat.reduceEqDiff, Nat.reduceBEq, ↓reduceIte, reduceCtorEq, natS]
                refine x_callP hcg c_Cmp (by simp [evA, upd_app, natS]) (by simp [AV.pureL, AV.pure]) rfl ?_
                simp (disch := omega) only [go_sem, ↓k_cond, ↓x_idx, ↓k_block, Nat.reduceEqDiff, Nat.reduceBEq, ↓reduceIte, reduceCtorEq, e0]
                rw [← hQ]
                exact hfail _ (by simp [upd_app] <;> omega) (by simp [upd_app]) (by simp [upd_app, zrI]) (by simp [upd_app] <;> omega) hpq
            · have hc1 : cmpI u 1 ≤ 0 := by
                rcases Nat.lt_or_ge u 1 with h | h
                · rw [cmpI_lt h]; decide
                · rw [show u = 1 by omega, cmpI_eq]; decide
              rw [if_neg (fun h => hu1 h.1)] at hpq
              (refine callOk_of_wpc (W := fun _ => false) false hm' Tryz.func37 rfl (by kernel_rfl) (Nat.le_of_ble_eq_true rfl) (go_start ?_); generalize hQ : Post Tryz.prog Tryz.f37 _ _ _ _ _ = Q; simp only [stIn, matL, matA, st00])
              simp (disch := omega) only [go_sem, ↓k_cond, ↓x_idx, ↓k_block, Nat.reduceEqDiff, Nat.reduceBEq, ↓reduceIte, reduceCtorEq, zrI, e0, hc0', h45, hsl]
              refine x_callP (hCut) c_sCut01 (by simp [evA, upd_app, ofVal, ofCell, hst]) (by simp [AV.pure, AV.pureL, natA_pure, natI_pure, natS_pure]) (by simp [AV.pure, AV.pureL, natA_pure, natI_pure, natS_pure]) ?_
              simp (disch := omega) only [go_sem, ↓k_cond, ↓x_idx, ↓k_block, Nat.reduceEqDiff, Nat.reduceBEq, ↓reduceIte, reduceCtorEq, strA_length, strA_at, hp0, List.length_cons]
              refine x_callP (hdig) c_Digits (by simp [evA, upd_app, ofVal, ofCell]) (by simp [AV.pure, AV.pureL, natA_pure, natI_pure, natS_pure]) (by simp [AV.pure, AV.pureL, natA_pure, natI_pure, natS_pure]) ?_
              simp (disch := omega) only [go_sem, ↓k_cond, ↓x_idx, ↓k_block, Nat.reduceEqDiff, Nat.reduceBEq, ↓reduceIte, reduceCtorEq, strA_length, strA_at, hp0, List.length_cons]
              refine x_callP (hNR) c_NatRead (by simp [evA, upd_app, ofVal, ofCell]) (by simp [AV.pure, AV.pureL, natA_pure, natI_pure, natS_pure]) (by simp [AV.pure, AV.pureL, natA_pure, natI_pure, natS_pure]) ?_
              simp (disch := omega) only [go_sem, ↓k_cond, ↓x_idx, ↓k_block, Nat.reduceEqDiff, Nat.reduceBEq, ↓reduceIte, reduceCtorEq, natS, List.length_cons, List.length_nil, strA_length, strA_at, hp1]
              refine x_callP (hdig2) c_Digits (by simp [evA, upd_app, ofVal, ofCell]) (by simp [AV.pure, AV.pureL, natA_pure, natI_pure, natS_pure]) (by simp [AV.pure, AV.pureL, natA_pure, natI_pure, natS_pure]) ?_
              simp (disch := omega) only [go_sem, ↓k_cond, ↓x_idx, ↓k_block, Nat.reduceEqDiff, Nat.reduceBEq, ↓reduceIte, reduceCtorEq, strA_length, strA_at, hp1]
              refine x_callP (hNR2) c_NatRead (by simp [evA, upd_app, ofVal, ofCell]) (by simp [AV.pure, AV.pureL, natA_pure, natI_pure, natS_pure]) (by simp [AV.pure, AV.pureL, natA_pure, natI_pure, natS_pure]) ?_
              simp (disch := omega) only [go_sem, ↓k_cond, ↓x_idx, ↓k_block, Nat.reduceEqDiff, Nat.reduceBEq, ↓reduceIte, reduceCtorEq, natS]
              refine x_callP hcmp c_Cmp (by simp [evA, upd_app, natS]) (by simp [AV.pureL, AV.pure]) rfl ?_
              simp (disch := omega) only [go_sem, ↓k_cond, ↓x_idx, ↓k_block, Nat.reduceEqDiff, Nat.reduceBEq, ↓reduceIte, reduceCtorEq, e0]
              rw [← hQ]
              exact hfail _ (by simp [upd_app] <;> omega) (by simp [upd_app]) (by simp [upd_app, zrI]) (by simp [upd_app] <;> omega) hpq
  · have hng : headB 45 s = false := by
      have : c0 ≠ 45 := fun e => h45 (by rw [e]; rfl)
      simp [headB, hhead, this]
    have hBs : B = s := by rw [← hB, bodyQ, hng]; rfl
    rw [hBs] at hCut
    rw [hng] at hpq
    simp only [Bool.false_eq_true, false_and, not_false_eq_true, and_true] at hpq
    cases hP1c : decide (2 ≤ P1.length) with
    | true =>
      have hP2 : 2 ≤ P1.length := by simpa using hP1c
      have hnone : parseQ s = none := by
        rw [hpq]
        rcases hP with ⟨_, h⟩ | ⟨j, h1, h2⟩
        · rw [h] at hP2; simp at hP2
        · have : tokD (B.drop (j + 1)) = false := by
            cases ht : tokD (B.drop (j + 1)) with
            | false => rfl
            | true =>
              rcases splitM_find (B.drop (j + 1)) with ⟨_, e⟩ | ⟨k, e, _⟩
              · rw [h2, e] at hP2; simp at hP2
              · rw [tok_noslash ht] at e; cases e
          simp only [h1, this, Bool.false_eq_true, false_and, if_false, ite_self]
      (refine callOk_of_wpc (W := fun _ => false) false hm' Tryz.func37 rfl (by kernel_rfl) (Nat.le_of_ble_eq_true rfl) (go_start ?_); generalize hQ : Post Tryz.prog Tryz.f37 _ _ _ _ _ = Q; simp only [stIn, matL, matA, st00])
      simp (disch := omega) only [go_sem, ↓k_cond, ↓x_idx, ↓k_block, Nat.reduceEqDiff, Nat.reduceBEq, ↓reduceIte, reduceCtorEq, zrI, e0, hc0']
      refine x_callP (hCut) c_sCut01 (by simp [evA, upd_app, ofVal, ofCell]) (by simp [AV.pure, AV.pureL, natA_pure, natI_pure, natS_pure]) (by simp [AV.pure, AV.pureL, natA_pure, natI_pure, natS_pure]) ?_
      simp (disch := omega) only [go_sem, ↓k_cond, ↓x_idx, ↓k_block, Nat.reduceEqDiff, Nat.reduceBEq, ↓reduceIte, reduceCtorEq, strA_length, List.length_cons, e0]
      rw [← hQ]
      exact hfail _ (by simp [upd_app] <;> omega) (by simp [upd_app]) (by simp [upd_app, zrI]) (by simp [upd_app] <;> omega) hnone
    | false =>
      have hP2 : P1.length ≤ 1 := by simp at hP1c; omega
      cases htd : tokD D with
      | false =>
        rw [htd] at hpq hdig
        simp only [Bool.false_eq_true, false_and, if_false] at hpq
        (refine callOk_of_wpc (W := fun _ => false) false hm' Tryz.func37 rfl (by kernel_rfl) (Nat.le_of_ble_eq_true rfl) (go_start ?_); generalize hQ : Post Tryz.prog Tryz.f37 _ _ _ _ _ = Q; simp only [stIn, matL, matA, st00])
        simp (disch := omega) only [go_sem, ↓k_cond, ↓x_idx, ↓k_block, Nat.reduceEqDiff, Nat.reduceBEq, ↓reduceIte, reduceCtorEq, zrI, e0, hc0']
        refine x_callP (hCut) c_sCut01 (by simp [evA, upd_app, ofVal, ofCell]) (by simp [AV.pure, AV.pureL, natA_pure, natI_pure, natS_pure]) (by simp [AV.pure, AV.pureL, natA_pure, natI_pure, natS_pure]) ?_
        simp (disch := omega) only [go_sem, ↓k_cond, ↓x_idx, ↓k_block, Nat.reduceEqDiff, Nat.reduceBEq, ↓reduceIte, reduceCtorEq, strA_length, strA_at, hp0, List.length_cons]
        refine x_callP (hdig) c_Digits (by simp [evA, upd_app, ofVal, ofCell]) (by simp [AV.pure, AV.pureL, natA_pure, natI_pure, natS_pure]) (by simp [AV.pure, AV.pureL, natA_pure, natI_pure, natS_pure]) ?_
        simp (disch := omega) only [go_sem, ↓k_cond, ↓x_idx, ↓k_block, Nat.reduceEqDiff, Nat.reduceBEq, ↓reduceIte, reduceCtorEq, e0]
        rw [← hQ]
        exact hfail _ (by simp [upd_app] <;> omega) (by simp [upd_app]) (by simp [upd_app, zrI]) (by simp [upd_app] <;> omega) hpq
      | true =>
        have htl := htk htd
        rw [htd] at hpq hdig
        simp only [true_and, if_true] at hpq
        have hNR := s_NatRead D (tok_len htd).2.2 (by omega)
        obtain ⟨v, hv⟩ : ∃ v, dval D = v := ⟨_, rfl⟩
        rw [hv] at hNR hpq htl
        rcases hP with ⟨hf, rfl⟩ | ⟨j, hf, hPj⟩
        · rw [hf] at hpq
          simp only at hpq
          have hres : parseV s = .tup [ratS (false, v, 1), .bool true] := by rw [parseV, hpq]
          rw [hres]
          refine CallOk.res (r := .tup [.agg [.bool false, natS v, .sl 2 [.int .i64 1] [] true], .bool true]) ?_ (sub_tup (SubL.cons (sub_agg (SubL.cons (Sub.refl _) (SubL.cons (Sub.refl _) (SubL.cons (by rw [oneS]; exact sub_sl) .nil)))) (SubL.refl _)))
          (refine callOk_of_wpc (W := fun _ => false) false hm' Tryz.func37 rfl (by kernel_rfl) (Nat.le_of_ble_eq_true rfl) (go_start ?_); generalize hQ : Post Tryz.prog Tryz.f37 _ _ _ _ _ = Q; simp only [stIn, matL, matA, st00])
          simp (disch := omega) only [go_sem, ↓k_cond, ↓x_idx, ↓k_block, Nat.reduceEqDiff, Nat.reduceBEq, ↓reduceIte, reduceCtorEq, zrI, e0, hc0']
          refine x_callP (hCut) c_sCut01 (by simp [evA, upd_app, ofVal, ofCell]) (by simp [AV.pure, AV.pureL, natA_pure, natI_pure, natS_pure]) (by simp [AV.pure, AV.pureL, natA_pure, natI_pure, natS_pure]) ?_
          simp (disch := omega) only [go_sem, ↓k_cond, ↓x_idx, ↓k_block, Nat.reduceEqDiff, Nat.reduceBEq, ↓reduceIte, reduceCtorEq, strA_length, strA_at, hp0, List.length_cons]
          refine x_callP (hdig) c_Digits (by simp [evA, upd_app, ofVal, ofCell]) (by simp [AV.pure, AV.pureL, natA_pure, natI_pure, natS_pure]) (by simp [AV.pure, AV.pureL, natA_pure, natI_pure, natS_pure]) ?_
          simp (disch := omega) only [go_sem, ↓k_cond, ↓x_idx, ↓k_block, Nat.reduceEqDiff, Nat.reduceBEq, ↓reduceIte, reduceCtorEq, strA_length, strA_at, hp0, List.length_cons]
          refine x_callP (hNR) c_NatRead (by simp [evA, upd_app, ofVal, ofCell]) (by simp [AV.pure, AV.pureL, natA_pure, natI_pure, natS_pure]) (by simp [AV.pure, AV.pureL, natA_pure, natI_pure, natS_pure]) ?_
          simp (disch := omega) only [go_sem, ↓k_cond, ↓x_idx, ↓k_block, Nat.reduceEqDiff, Nat.reduceBEq, ↓reduceIte, reduceCtorEq, natS, List.length_cons, List.length_nil, e0]
          rw [← hQ]
          exact hgood _ false (natS v) (.sl 2 [.int .i64 1] [] true) (false, v, 1) (by simp [upd_app] <;> omega) (by simp [upd_app]) (by simp [upd_app, natS]) (by simp [upd_app] <;> omega) (by simp) rfl
        · rw [hf] at hpq
          simp only at hpq
          obtain ⟨e, he⟩ : ∃ e, B.drop (j + 1) = e := ⟨_, rfl⟩
          rw [he] at hpq hPj
          have hel : e.length ≤ B.length := by rw [← he]; simp
          have hPe : P1 = [e] := by
            rcases splitM_find e with ⟨_, h⟩ | ⟨k, _, h⟩
            · rw [hPj, h]
            · exfalso
              rw [hPj, h] at hP2
              have := splitM_ne 47 (e.drop (k + 1))
              cases hs' : splitM 47 (e.drop (k + 1)) with
              | nil => exact this hs'
              | cons a b => rw [hs'] at hP2; simp at hP2
          subst hPe
          have hp1 : [D, e][Int.toNat 1]? = some e := rfl
          have hdig2 := s_Digits e (by omega)
          cases hte : tokD e with
          | false =>
            rw [hte] at hpq hdig2
            simp only [Bool.false_eq_true, false_and, if_false] at hpq
            (refine callOk_of_wpc (W := fun _ => false) false hm' Tryz.func37 rfl (by kernel_rfl) (Nat.le_of_ble_eq_true rfl) (go_start ?_); generalize hQ : Post Tryz.prog Tryz.f37 _ _ _ _ _ = Q; simp only [stIn, matL, matA, st00])
            simp (disch := omega) only [go_sem, ↓k_cond, ↓x_idx, ↓k_block, Nat.reduceEqDiff, Nat.reduceBEq, ↓reduceIte, reduceCtorEq, zrI, e0, hc0']
            refine x_callP (hCut) c_sCut01 (by simp [evA, upd_app, ofVal, ofCell]) (by simp [AV.pure, AV.pureL, natA_pure, natI_pure, natS_pure]) (by simp [AV.pure, AV.pureL, natA_pure, natI_pure, natS_pure]) ?_
            simp (disch := omega) only [go_sem, ↓k_cond, ↓x_idx, ↓k_block, Nat.reduceEqDiff, Nat.reduceBEq, ↓reduceIte, reduceCtorEq, strA_length, strA_at, hp0, List.length_cons]
            refine x_callP (hdig) c_Digits (by simp [evA, upd_app, ofVal, ofCell]) (by simp [AV.pure, AV.pureL, natA_pure, natI_pure, natS_pure]) (by simp [AV.pure, AV.pureL, natA_pure, natI_pure, natS_pure]) ?_
            simp (disch := omega) only [go_sem, ↓k_cond, ↓x_idx, ↓k_block, Nat.reduceEqDiff, Nat.reduceBEq, ↓reduceIte, reduceCtorEq, strA_length, strA_at, hp0, List.length_cons]
            refine x_callP (hNR) c_NatRead (by simp [evA, upd_app, ofVal, ofCell]) (by simp [AV.pure, AV.pureL, natA_pure, natI_pure, natS_pure]) (by simp [AV.pure, AV.pureL, natA_pure, natI_pure, natS_pure]) ?_
            simp (disch := omega) only [go_sem, ↓k_cond, ↓x_idx, ↓k_block, Nat.reduceEqDiff, Nat.reduceBEq, ↓reduceIte, reduceCtorEq, natS, List.length_cons, List.length_nil, strA_length, strA_at, hp1]
            refine x_callP (hdig2) c_Digits (by simp [evA, upd_app, ofVal, ofCell]) (by simp [AV.pure, AV.pureL, natA_pure, natI_pure, natS_pure]) (by simp [AV.pure, AV.pureL, natA_pure, natI_pure, natS_pure]) ?_
            simp (disch := omega) only [go_sem, ↓k_cond, ↓x_idx, ↓k_block, Nat.reduceEqDiff, Nat.reduceBEq, ↓reduceIte, reduceCtorEq, e0]
            rw [← hQ]
            exact hfail _ (by simp [upd_app] <;> omega) (by simp [upd_app]) (by simp [upd_app, zrI]) (by simp [upd_app] <;> omega) hpq
          | true =>
            have htl2 : (enc B9 (dval e)).length ≤ 200 := by
              obtain ⟨_, b, c⟩ := tok_len hte
              exact Nat.le_trans (dval_enc (by decide) c) b
            rw [hte] at hpq hdig2
            simp only [true_and] at hpq
            have hNR2 := s_NatRead e (tok_len hte).2.2 (by omega)
            obtain ⟨u, hu⟩ : ∃ u, dval e = u := ⟨_, rfl⟩
            rw [hu] at hNR2 hpq htl2
            have hcmp := (s_Cmp hm' u 1 (by omega) (by omega)).args (SubL.cons (Sub.refl _) (SubL.cons (show Sub Tryz.prog (.sl 2 [.int .i64 1] [] true) (natS 1) by rw [oneS]; exact sub_sl) .nil))
            have hgcd := s_Gcd v u (by omega) (by omega)
            by_cases hu1 : 1 < u
            · rw [cmpI_gt hu1] at hcmp
              obtain ⟨g, hg⟩ : ∃ g, Nat.gcd v u = g := ⟨_, rfl⟩
              rw [hg] at hgcd
              simp only [hg, hu1, true_and] at hpq
              have hgu : g ≤ u := by rw [← hg]; exact Nat.gcd_le_right v (by omega)
              have hgl := enc_len_mono B9_gt hgu
              have hcg := (s_Cmp hm' g 1 (by omega) (by omega)).args (SubL.cons (Sub.refl _) (SubL.cons (show Sub Tryz.prog (.sl 2 [.int .i64 1] [] true) (natS 1) by rw [oneS]; exact sub_sl) .nil))
              by_cases hg1 : g = 1
              · subst hg1
                rw [cmpI_eq] at hcg
                simp only [if_true] at hpq
                have hres : parseV s = .tup [ratS (false, v, u), .bool true] := by rw [parseV, hpq]
                rw [hres]
                (refine callOk_of_wpc (W := fun _ => false) false hm' Tryz.func37 rfl (by kernel_rfl) (Nat.le_of_ble_eq_true rfl) (go_start ?_); generalize hQ : Post Tryz.prog Tryz.f37 _ _ _ _ _ = Q; simp only [stIn, matL, matA, st00])
                simp (disch := omega) only [go_sem, ↓k_cond, ↓x_idx, ↓k_block, Nat.reduceEqDiff, Nat.reduceBEq, ↓reduceIte, reduceCtorEq, zrI, e0, hc0']
                refine x_callP (hCut) c_sCut01 (by simp [evA, upd_app, ofVal, ofCell]) (by simp [AV.pure, AV.pureL, natA_pure, natI_pure, natS_pure]) (by simp [AV.pure, AV.pureL, natA_pure, natI_pure, natS_pure]) ?_
                simp (disch := omega) only [go_sem, ↓k_cond, ↓x_idx, ↓k_block, Nat.reduceEqDiff, Nat.reduceBEq, ↓reduceIte, reduceCtorEq, strA_length, strA_at, hp0, List.length_cons]
                refine x_callP (hdig) c_Digits (by simp [evA, upd_app, ofVal, ofCell]) (by simp [AV.pure, AV.pureL, natA_pure, natI_pure, natS_pure]) (by simp [AV.pure, AV.pureL, natA_pure, natI_pure, natS_pure]) ?_
                simp (disch := omega) only [go_sem, ↓k_cond, ↓x_idx, ↓k_block, Nat.reduceEqDiff, Nat.reduceBEq, ↓reduceIte, reduceCtorEq, strA_length, strA_at, hp0, List.length_cons]
                refine x_callP (hNR) c_NatRead (by simp [evA, upd_app, ofVal, ofCell]) (by simp [AV.pure, AV.pureL, natA_pure, natI_pure, natS_pure]) (by simp [AV.pure, AV.pureL, natA_pure, natI_pure, natS_pure]) ?_
                simp (disch := omega) only [go_sem, ↓k_cond, ↓x_idx, ↓k_block, Nat.reduceEqDiff, Nat.reduceBEq, ↓reduceIte, reduceCtorEq, natS, List.length_cons, List.length_nil, strA_length, strA_at, hp1]
                refine x_callP (hdig2) c_Digits (by simp [evA, upd_app, ofVal, ofCell]) (by simp [AV.pure, AV.pureL, natA_pure, natI_pure, natS_pure]) (by simp [AV.pure, AV.pureL, natA_pure, natI_pure, natS_pure]) ?_
                simp (disch := omega) only [go_sem, ↓k_cond, ↓x_idx, ↓k_block, Nat.reduceEqDiff, Nat.reduceBEq, ↓reduceIte, reduceCtorEq, strA_length, strA_at, hp1]
                refine x_callP (hNR2) c_NatRead (by simp [evA, upd_app, ofVal, ofCell]) (by simp [AV.pure, AV.pureL, natA_pure, natI_pure, natS_pure]) (by simp [AV.pure, AV.pureL, natA_pure, natI_pure, natS_pure]) ?_
                simp (disch := omega) only [go_sem, ↓k_cond, ↓x_idx, ↓k_block, Nat.reduceEqDiff, Nat.reduceBEq, ↓reduceIte, reduceCtorEq, natS]
                refine x_callP hcmp c_Cmp (by simp [evA, upd_app, natS]) (by simp [AV.pureL, AV.pure]) rfl ?_
                simp (disch := omega) only [go_sem, ↓k_cond, ↓x_idx, ↓k_block, Nat.reduceEqDiff, Nat.reduceBEq, ↓reduceIte, reduceCtorEq, natS]
                refine x_callP hgcd c_Gcd (by simp [evA, upd_app, natS]) (by simp [AV.pureL]) (by simp) ?_
                simp (disch := omega) only [go_sem, ↓k_cond, ↓x_idx, ↓k_block, Nat.reduceEqDiff, Nat.reduceBEq, ↓reduceIte, reduceCtorEq, natS]
                refine x_callP hcg c_Cmp (by simp [evA, upd_app, natS]) (by simp [AV.pureL, AV.pure]) rfl ?_
                simp (disch := omega) only [go_sem, ↓k_cond, ↓x_idx, ↓k_block, Nat.reduceEqDiff, Nat.reduceBEq, ↓reduceIte, reduceCtorEq, natS, e0]
                rw [← hQ]
                exact hgood _ false (natS v) (natS u) (false, v, u) (by simp [upd_app] <;> omega) (by simp [upd_app]) (by simp [upd_app, natS]) (by simp [upd_app] <;> omega) (by simp) (by simp)
              · have hcn : cmpI g 1 ≠ 0 := by
                  rcases Nat.lt_trichotomy g 1 with h | h | h
                  · rw [cmpI_lt h]; decide
                  · exact absurd h hg1
                  · rw [cmpI_gt h]; decide
                rw [if_neg hg1] at hpq
                (refine callOk_of_wpc (W := fun _ => false) false hm' Tryz.func37 rfl (by kernel_rfl) (Nat.le_of_ble_eq_true rfl) (go_start ?_); generalize hQ : Post Tryz.prog Tryz.f37 _ _ _ _ _ = Q; simp only [stIn, matL, matA, st00])
                simp (disch := omega) only [go_sem, ↓k_cond, ↓x_idx, ↓k_block, Nat.reduceEqDiff, Nat.reduceBEq, ↓reduceIte, reduceCtorEq, zrI, e0, hc0']
                refine x_callP (hCut) c_sCut01 (by simp [evA, upd_app, ofVal, ofCell]) (by simp [AV.pure, AV.pureL, natA_pure, natI_pure, natS_pure]) (by simp [AV.pure, AV.pureL, natA_pure, natI_pure, natS_pure]) ?_
                simp (disch := omega) only [go_sem, ↓k_cond, ↓x_idx, ↓k_block, Nat.reduceEqDiff, Nat.reduceBEq, ↓reduceIte, reduceCtorEq, strA_length, strA_at, hp0, List.length_cons]
                refine x_callP (hdig) c_Digits (by simp [evA, upd_app, ofVal, ofCell]) (by simp [AV.pure, AV.pureL, natA_pure, natI_pure, natS_pure]) (by simp [AV.pure, AV.pureL, natA_pure, natI_pure, natS_pure]) ?_
                simp (disch := omega) only [go_sem, ↓k_cond, ↓x_idx, ↓k_block, Nat.reduceEqDiff, Nat.reduceBEq, ↓reduceIte, reduceCtorEq, strA_length, strA_at, hp0, List.length_cons]
                refine x_callP (hNR) c_NatRead (by simp [evA, upd_app, ofVal, ofCell]) (by simp [AV.pure, AV.pureL, natA_pure, natI_pure, natS_pure]) (by simp [AV.pure, AV.pureL, natA_pure, natI_pure, natS_pure]) ?_
                simp (disch := omega) only [go_sem, ↓k_cond, ↓x_idx, ↓k_block, Nat.reduceEqDiff, Nat.reduceBEq, ↓reduceIte, reduceCtorEq, natS, List.length_cons, List.length_nil, strA_length, strA_at, hp1]
                refine x_callP (hdig2) c_Digits (by simp [evA, upd_app, ofVal, ofCell]) (by simp [AV.pure, AV.pureL, natA_pure, natI_pure, natS_pure]) (by simp [AV.pure, AV.pureL, natA_pure, natI_pure, natS_pure]) ?_
                simp (disch := omega) only [go_sem, ↓k_cond, ↓x_idx, ↓k_block, Nat.reduceEqDiff, Nat.reduceBEq, ↓reduceIte, reduceCtorEq, strA_length, strA_at, hp1]
                refine x_callP (hNR2) c_NatRead (by simp [evA, upd_app, ofVal, ofCell]) (by simp [AV.pure, AV.pureL, natA_pure, natI_pure, natS_pure]) (by simp [AV.pure, AV.pureL, natA_pure, natI_pure, natS_pure]) ?_
                simp (disch := omega) only [go_sem, ↓k_cond, ↓x_idx, ↓k_block, Nat.reduceEqDiff, Nat.reduceBEq, ↓reduceIte, reduceCtorEq, natS]
                refine x_callP hcmp c_Cmp (by simp [evA, upd_app, natS]) (by simp [AV.pureL, AV.pure]) rfl ?_
                simp (disch := omega) only [go_sem, ↓k_cond, ↓x_idx, ↓k_block, Nat.reduceEqDiff, Nat.reduceBEq, ↓reduceIte, reduceCtorEq, natS]
                refine x_callP hgcd c_Gcd (by simp [evA, upd_app, natS]) (by simp [AV.pureL]) (by simp) ?_
                simp (disch := omega) only [go_sem, ↓k_cond, ↓x_idx, ↓k_block, Nat.reduceEqDiff, Nat.reduceBEq, ↓reduceIte, reduceCtorEq, natS]
                refine x_callP hcg c_Cmp (by simp [evA, upd_app, natS]) (by simp [AV.pureL, AV.pure]) rfl ?_
                simp (disch := omega) only [go_sem, ↓k_cond, ↓x_idx, ↓k_block, Nat.reduceEqDiff, Nat.reduceBEq, ↓reduceIte, reduceCtorEq, e0]
                rw [← hQ]
                exact hfail _ (by simp [upd_app] <;> omega) (by simp [upd_app]) (by simp [upd_app, zrI]) (by simp [upd_app] <;> omega) hpq
            · have hc1 : cmpI u 1 ≤ 0 := by
                rcases Nat.lt_or_ge u 1 with h | h
                · rw [cmpI_lt h]; decide
                · rw [show u = 1 by omega, cmpI_eq]; decide
              rw [if_neg (fun h => hu1 h.1)] at hpq
              (refine callOk_of_wpc (W := fun _ => false) false hm' Tryz.func37 rfl (by kernel_rfl) (Nat.le_of_ble_eq_true rfl) (go_start ?_); generalize hQ : Post Tryz.prog Tryz.f37 _ _ _ _ _ = Q; simp only [stIn, matL, matA, st00])
              simp (disch := omega) only [go_sem, ↓k_cond, ↓x_idx, ↓k_block, Nat.reduceEqDiff, Nat.reduceBEq, ↓reduceIte, reduceCtorEq, zrI, e0, hc0']
              refine x_callP (hCut) c_sCut01 (by simp [evA, upd_app, ofVal, ofCell]) (by simp [AV.pure, AV.pureL, natA_pure, natI_pure, natS_pure]) (by simp [AV.pure, AV.pureL, natA_pure, natI_pure, natS_pure]) ?_
              simp (disch := omega) only [go_sem, ↓k_cond, ↓x_idx, ↓k_block, Nat.reduceEqDiff, Nat.reduceBEq, ↓reduceIte, reduceCtorEq, strA_length, strA_at, hp0, List.length_cons]
              refine x_callP (hdig) c_Digits (by simp [evA, upd_app, ofVal, ofCell]) (by simp [AV.pure, AV.pureL, natA_pure, natI_pure, natS_pure]) (by simp [AV.pure, AV.pureL, natA_pure, natI_pure, natS_pure]) ?_
              simp (disch := omega) only [go_sem, ↓k_cond, ↓x_idx, ↓k_block, Nat.reduceEqDiff, Nat.reduceBEq, ↓reduceIte, reduceCtorEq, strA_length, strA_at, hp0, List.length_cons]
              refine x_callP (hNR) c_NatRead (by simp [evA, upd_app, ofVal, ofCell]) (by simp [AV.pure, AV.pureL, natA_pure, natI_pure, natS_pure]) (by simp [AV.pure, AV.pureL, natA_pure, natI_pure, natS_pure]) ?_
              simp (disch := omega) only [go_sem, ↓k_cond, ↓x_idx, ↓k_block, Nat.reduceEqDiff, Nat.reduceBEq, ↓reduceIte, reduceCtorEq, natS, List.length_cons, List.length_nil, strA_length, strA_at, hp1]
              refine x_callP (hdig2) c_Digits (by simp [evA, upd_app, ofVal, ofCell]) (by simp [AV.pure, AV.pureL, natA_pure, natI_pure, natS_pure]) (by simp [AV.pure, AV.pureL, natA_pure, natI_pure, natS_pure]) ?_
              simp (disch := omega) only [go_sem, ↓k_cond, ↓x_idx, ↓k_block, Nat.reduceEqDiff, Nat.reduceBEq, ↓reduceIte, reduceCtorEq, strA_length, strA_at, hp1]
              refine x_callP (hNR2) c_NatRead (by simp [evA, upd_app, ofVal, ofCell]) (by simp [AV.pure, AV.pureL, natA_pure, natI_pure, natS_pure]) (by simp [AV.pure, AV.pureL, natA_pure, natI_pure, natS_pure]) ?_
              simp (disch := omega) only [go_sem, ↓k_cond, ↓x_idx, ↓k_block, Nat.reduceEqDiff, Nat.reduceBEq, ↓reduceIte, reduceCtorEq, natS]
              refine x_callP hcmp c_Cmp (by simp [evA, upd_app, natS]) (by simp [AV.pureL, AV.pure]) rfl ?_
              simp (disch := omega) only [go_sem, ↓k_cond, ↓x_idx, ↓k_block, Nat.reduceEqDiff, Nat.reduceBEq, ↓reduceIte, reduceCtorEq, e0]
              rw [← hQ]
              exact hfail _ (by simp [upd_app] <;> omega) (by simp [upd_app]) (by simp [upd_app, zrI]) (by simp [upd_app] <;> omega) hpq

def qd (q : Rat) : Qd := (decide (q.num < 0), q.num.natAbs, q.den)
def sg (b : Bool) (m : Nat) : Int := if b then -(m : Int) else m
theorem sg_abs (b : Bool) (m : Nat) : (sg b m).natAbs = m := by cases b <;> simp [sg]
theorem sg_neg (b : Bool) (m : Nat) : decide (sg b m < 0) = (b && decide (m ≠ 0)) := by
  cases b
  · simp [sg]
  · simp only [sg, if_true, Bool.true_and]
    exact decide_eq_decide.2 (by omega)
theorem sg_div (b : Bool) (m g : Nat) (h : g ∣ m) : sg b m / (g : Int) = sg b (m / g) := by
  cases b
  · simp [sg]
  · simp only [sg, if_true]
    rw [Int.neg_ediv_of_dvd (Int.natCast_dvd_natCast.2 h)]; simp
theorem qd_mkRat (b : Bool) (m n : Nat) (hn : n ≠ 0) : qd (mkRat (sg b m) n) = (b && decide (m ≠ 0), m / Nat.gcd m n, n / Nat.gcd m n) := by
  unfold qd
  have hg : 0 < Nat.gcd m n := Nat.gcd_pos_of_pos_right _ (Nat.pos_of_ne_zero hn)
  rw [Rat.num_mkRat, Rat.den_mkRat, if_neg hn, if_neg hn, sg_abs, Nat.gcd_comm n m, sg_div _ _ _ (Nat.gcd_dvd_left m n), sg_abs, sg_neg]
  have : (m / Nat.gcd m n ≠ 0) ↔ m ≠ 0 := by
    constructor
    · rintro h rfl; simp at h
    · intro h h'
      have := Nat.div_mul_cancel (Nat.gcd_dvd_left m n)
      rw [h'] at this; omega
  simp only [this]
theorem qd_sg (q : Rat) : sg (qd q).1 (qd q).2.1 = q.num := by
 by_cases h : q.num < 0 <;> simp [qd, sg, h] <;> omega
def fits (n : Nat) (q : Rat) : Prop := q.num.natAbs < 2 ^ n ∧ q.den < 2 ^ n
theorem fits_mono {m n : Nat} {q : Rat} (h : fits m q) (hmn : m ≤ n) : fits n q :=
 ⟨Nat.lt_of_lt_of_le h.1 (Nat.pow_le_pow_right (by decide) hmn), Nat.lt_of_lt_of_le h.2 (Nat.pow_le_pow_right (by decide) hmn)⟩
theorem fits_mkRat {n d : Nat} {a : Int} (h1 : a.natAbs < 2 ^ n) (h2 : d < 2 ^ n) (hn : 0 < n) : fits n (mkRat a d) := by
  unfold fits
  rw [Rat.num_mkRat, Rat.den_mkRat]
  have h1n : 1 < 2 ^ n := Nat.one_lt_two_pow (by omega)
  split
  · simp; omega
  · refine ⟨Nat.lt_of_le_of_lt ?_ h1, Nat.lt_of_le_of_lt (Nat.div_le_self _ _) h2⟩
    rw [Int.natAbs_ediv_of_dvd (Int.ofNat_dvd_left.2 (Nat.gcd_dvd_right _ _))]
    exact Nat.div_le_self _ _
theorem mul_lt_pow {a b m n : Nat} (h1 : a < 2 ^ m) (h2 : b < 2 ^ n) : a * b < 2 ^ (m + n) := by
 rw [Nat.pow_add]
 exact Nat.mul_lt_mul'' h1 h2
theorem fits_mul {m n : Nat} {a b : Rat} (h1 : fits m a) (h2 : fits n b) (hm : 0 < m) : fits (m + n) (a * b) := by
 rw [Rat.mul_def']
 exact fits_mkRat (by rw [Int.natAbs_mul]; exact mul_lt_pow h1.1 h2.1) (mul_lt_pow h1.2 h2.2) (by omega)
theorem fits_add {m n : Nat} {a b : Rat} (h1 : fits m a) (h2 : fits n b) : fits (m + n + 1) (a + b) := by
 rw [Rat.add_def']
 have e : 2 ^ (m + n + 1) = 2 ^ (m + n) + 2 ^ (m + n) := by rw [Nat.pow_succ]; omega
 refine fits_mkRat ?_ (by have := mul_lt_pow h1.2 h2.2; omega) (by omega)
 have k1 := mul_lt_pow h1.1 h2.2
 have k2 := mul_lt_pow h2.1 h1.2
 rw [Nat.add_comm n m] at k2
 have := Int.natAbs_add_le (a.num * b.den) (b.num * a.den)
 rw [Int.natAbs_mul, Int.natAbs_mul] at this
 simp only [Int.natAbs_natCast] at this
 omega
theorem fits_neg {m : Nat} {a : Rat} (h : fits m a) : fits m (-a) := by simpa [fits] using h
theorem qd_neg (a : Rat) : qd (-a) = (!(qd a).1 && decide ((qd a).2.1 ≠ 0), (qd a).2.1, (qd a).2.2) := by
  simp only [qd, Rat.neg_num, Rat.neg_den, Int.natAbs_neg]
  congr 1
  by_cases h : a.num < 0
  · simp [h]; omega
  · have : (0 < a.num) ↔ ¬ a.num = 0 := by omega
    simp [h, this]
def sgnQ (q : Qd) : Int := if q.2.1 = 0 then 0 else if q.1 then -1 else 1
def cmpN (m n : Nat) : Int := if m < n then -1 else if n < m then 1 else 0
def cmpQ (a b : Qd) : Int := if sgnQ a ≠ sgnQ b then sgnQ a - sgnQ b else if a.1 then - cmpN (a.2.1 * b.2.2) (b.2.1 * a.2.2) else cmpN (a.2.1 * b.2.2) (b.2.1 * a.2.2)
theorem sgnQ_qd (a : Rat) : sgnQ (qd a) = a.num.sign := by
  simp only [sgnQ, qd]
  by_cases h : a.num = 0
  · simp [h]
  · by_cases h1 : a.num < 0
    · simp [h, h1, Int.sign_eq_neg_one_of_neg h1]
    · simp [h, h1, Int.sign_eq_one_of_pos (show 0 < a.num by omega)]
theorem cmp_lt (a b : Rat) : (cmpQ (qd a) (qd b) < 0 ↔ a < b) ∧ (cmpQ (qd a) (qd b) = 0 ↔ a = b) := by
  have hda := a.den_pos
  have hdb := b.den_pos
  rw [Rat.lt_iff, Rat.eq_iff_mul_eq_mul]
  simp only [cmpQ, sgnQ_qd]
  by_cases hs : a.num.sign = b.num.sign
  · simp only [hs, ne_eq, not_true_eq_false, if_false]
    simp only [qd, cmpN]
    by_cases h1 : a.num < 0
    · have h2 : b.num < 0 := by rw [Int.sign_eq_neg_one_of_neg h1] at hs; exact Int.sign_eq_neg_one_iff_neg.1 hs.symm
      obtain ⟨m, hm⟩ : ∃ m : Nat, a.num = -m := ⟨a.num.natAbs, by omega⟩
      obtain ⟨n, hn⟩ : ∃ n : Nat, b.num = -n := ⟨b.num.natAbs, by omega⟩
      simp only [hm, hn, Int.natAbs_neg, Int.natAbs_natCast, Int.neg_mul]
      have e1 : ((m : Int) * b.den) = ((m * b.den : Nat) : Int) := by simp
      have e2 : ((n : Int) * a.den) = ((n * a.den : Nat) : Int) := by simp
      rw [e1, e2]
      generalize m * b.den = X; generalize n * a.den = Y
      rw [hm] at h1
      simp only [h1, decide_true, if_true]
      split
      · omega
      · split <;> omega
    · obtain ⟨m, hm⟩ : ∃ m : Nat, a.num = m := ⟨a.num.natAbs, by omega⟩
      obtain ⟨n, hn⟩ : ∃ n : Nat, b.num = n := ⟨b.num.natAbs, by
        have : ¬ b.num < 0 := fun h => by rw [Int.sign_eq_neg_one_of_neg h] at hs; exact h1 (Int.sign_eq_neg_one_iff_neg.1 hs)
        omega⟩
      simp only [hm, hn, Int.natAbs_natCast]
      have e1 : ((m : Int) * b.den) = ((m * b.den : Nat) : Int) := by simp
      have e2 : ((n : Int) * a.den) = ((n * a.den : Nat) : Int) := by simp
      rw [e1, e2]
      generalize m * b.den = X; generalize n * a.den = Y
      have h0 : ¬ ((m : Int) < 0) := by omega
      simp only [h0, decide_false, Bool.false_eq_true, if_false]
      split
      · omega
      · split <;> omega
  · simp only [ne_eq, hs, not_false_eq_true, if_true]
    have ha : a.num * b.den < 0 ↔ a.num < 0 := by
      constructor
      · intro h; exact Int.not_le.1 fun h' => by have := Int.mul_nonneg h' (Int.natCast_nonneg b.den); omega
      · intro h; exact Int.mul_neg_of_neg_of_pos h (by omega)
    have ha' : 0 < a.num * b.den ↔ 0 < a.num := by
      constructor
      · intro h; exact Int.not_le.1 fun h' => by have := Int.mul_nonpos_of_nonpos_of_nonneg h' (Int.natCast_nonneg b.den); omega
      · intro h; exact Int.mul_pos h (by omega)
    have hb : b.num * a.den < 0 ↔ b.num < 0 := by
      constructor
      · intro h; exact Int.not_le.1 fun h' => by have := Int.mul_nonneg h' (Int.natCast_nonneg a.den); omega
      · intro h; exact Int.mul_neg_of_neg_of_pos h (by omega)
    have hb' : 0 < b.num * a.den ↔ 0 < b.num := by
      constructor
      · intro h; exact Int.not_le.1 fun h' => by have := Int.mul_nonpos_of_nonpos_of_nonneg h' (Int.natCast_nonneg a.den); omega
      · intro h; exact Int.mul_pos h (by omega)
    have sg : ∀ x : Int, (x < 0 ∧ x.sign = -1) ∨ (x = 0 ∧ x.sign = 0) ∨ (0 < x ∧ x.sign = 1) := fun x => by
      rcases Int.lt_trichotomy x 0 with h | h | h
      · exact .inl ⟨h, Int.sign_eq_neg_one_of_neg h⟩
      · exact .inr (.inl ⟨h, by simp [h]⟩)
      · exact .inr (.inr ⟨h, Int.sign_eq_one_of_pos h⟩)
    generalize a.num * b.den = X at *
    generalize b.num * a.den = Y at *
    rcases sg a.num with ⟨h1, h2⟩ | ⟨h1, h2⟩ | ⟨h1, h2⟩ <;> rcases sg b.num with ⟨h3, h4⟩ | ⟨h3, h4⟩ | ⟨h3, h4⟩ <;> rw [h2, h4] at hs ⊢ <;> omega
section
variable {P : Program} {W : FuncId → Bool} {ops : Array Oper} {os : List Oper} {fr : Nat → AV} {h : Nat → Blk} {nx : Nat} {K : St → Prop} {d t : Nat} {p : String} {af : Array Edge}
end

theorem cl_room : callable Tryz.prog 31 = true := by kernel_rfl
end Go.Proofs.YtmlbjakkojbdlaaGreatDoor
