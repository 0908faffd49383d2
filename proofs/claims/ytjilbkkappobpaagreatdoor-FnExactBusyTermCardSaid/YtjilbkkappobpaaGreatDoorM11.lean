/- Part 11 of the ground of the proofs of this seat. -/
import Derived.Shelf.LaysM
import Derived.Shelf.Strconv.Itoa2
import Derived.Shelf.Strconv.Itoa1
import Derived.Lib.ItoaMem
import Derived.Shelf.Strings.OnBuilder
import Derived.Shelf.Strings.Repeat
import Derived.Test.YtjilbkkappobpaaGreatDoorProg
import Derived.Lib.Join
import Derived.Lib.Repeat
import Derived.Test.YtjilbkkappobpaaGreatDoorM10

set_option linter.unusedVariables false
set_option linter.unusedSimpArgs false
set_option maxRecDepth 100000
namespace Go.Proofs.YtjilbkkappobpaaGreatDoor
open Go

theorem post_ownB {P : Program} {fn : Func} {n0 : Nat} {fl : Bool} {t u : Tmp} {id n len T : Nat} {r sp : List AV} {ex b : Bool} {st : St} {e : Ex} (he : e = .ret ∨ e = .normal) (hr : fn.results.toList = [.tmp t, .tmp u]) (hv : st.fr t = .ref id n 0 len) (hw : st.fr u = .bool b)
  (hlv : (st.h id).lv = true) (hn : (st.h id).xs.length = n) (hg : (st.h id).gr = true) (ht : (st.h id).t = T) (hl : len ≤ n) (hxs : (st.h id).xs.take len = r) (hsp : (if (st.h id).ex = true then (st.h id).xs.drop len else []) = sp) (hex : (st.h id).ex = ex) (hp : AV.pureL r = true) (hq : AV.pureL sp = true) :
  Post P fn n0 fl true (.tup [.own T r sp ex, .bool b]) [] e st := by
 refine ⟨by rcases he with rfl | rfl <;> trivial, .tup [.ref id n 0 len, .bool b], by rw [hr]; simp [resV, resL, resA, hv, hw], [id], ?_, .inl rfl⟩
 simp only [if_true]
 refine ⟨?_, by simp⟩
 have key : ownA st 7 (.ref id n 0 len) = some (.own T r sp ex, [id]) := by
  rw [ownA_ref, if_pos ⟨hlv, hn, rfl, hl, hg⟩, hxs, snapLo_pure hp, ht]
  rw [hex] at hsp
  simp only [hex, Option.bind_some]
  cases ex with
  | true => simp only [if_true] at hsp ⊢; rw [hsp, snapLo_pure hq]; simp
  | false => simp only [Bool.false_eq_true, if_false] at hsp ⊢; rw [← hsp]; simp
 have : ownA st (7 + 1) (.tup [.ref id n 0 len, .bool b]) = some (.tup [.own T r sp ex, .bool b], [id]) := by
  rw [ownA]
  have hb : ownA st 7 (.bool b) = some (.bool b, []) := ownA_pure rfl
  simp [AV.pure, AV.pureL, snapL, key, hb]
 exact this
theorem postT_two {P : Program} {fn : Func} {n0 : Nat} {fl : Bool} {t u : Tmp} {v w : AV} {st : St} {e : Ex} (he : e = .ret ∨ e = .normal) (hr : fn.results.toList = [.tmp t, .tmp u]) (hv : st.fr t = v) (hw : st.fr u = w) (hp : v.pure = true) (hq : w.pure = true) :
  Post P fn n0 fl true (.tup [v, w]) [] e st := by
 refine ⟨by rcases he with rfl | rfl <;> trivial, .tup [v, w], by rw [hr]; simp [resV, resL, resA, hv, hw], [], ?_, .inl rfl⟩
 simp only [if_true]
 exact ⟨ownA_pure (by simp [AV.pure, AV.pureL, hp, hq]), by simp⟩
attribute [go_sem] optT_s optT_n
theorem w_sFits {m : Nat} {q : Rat} (h : m ≤ 274877906944) : CW Tryz.prog 113 [rS m q] (.bool (okR q)) := by
 refine cw (by kernel_rfl) (by simp [AV.pure, AV.pureL, natA_pure, natI_pure, natS_pure]) (by simp [AV.pure, AV.pureL, natA_pure, natI_pure, natS_pure]) ?_
 refine callOk_told (x := rS m q) told_rS (by simp) (by simp [AV.pure, AV.pureL, natA_pure, natI_pure, natS_pure]) fun ha => ?_
 obtain ⟨l1, l2⟩ := numS_len ha
 have h1 := w_sNatText (n := q.num.natAbs) (by have := len9 ha.1; omega)
 have h2 := w_sNatText (n := q.den) (by have := len9 ha.2; omega)
 rw [rS_eq ha, ratS, qd, okR]
 simp only [natS] at h1 h2
 generalize Lib.decDigits q.num.natAbs = s1 at *
 generalize Lib.decDigits q.den = s2 at *
 by_cases c1 : s1.length ≤ 200 <;> by_cases c2 : s2.length ≤ 200
 all_goals
  (refine callOk_of_wpc (W := fun _ => false) false hm' Tryz.func113 rfl (by kernel_rfl) (Nat.le_of_ble_eq_true rfl) (go_start ?_); generalize hQ : Post Tryz.prog Tryz.f113 _ _ _ _ _ = Q; simp only [stIn, matL, matA, st00, natS])
  simp (disch := omega) only [go_sem, ↓k_cond, ↓x_idx, ↓k_block, Nat.reduceEqDiff, Nat.reduceBEq, ↓reduceIte, reduceCtorEq, h1, h2]
  (repeat (with_reducible refine Or.inr ?_))
  rw [← hQ]
  exact post_one (.inl rfl) rfl (by simp [upd_app, c1, c2]) rfl
attribute [go_sem] w_sFits
theorem w_sShow {m : Nat} {q : Rat} (h : m ≤ 274877906944) : CW Tryz.prog 114 [rS m q] (.str (numS q)) := by
  refine cw (by kernel_rfl) (by simp [AV.pure, AV.pureL, natA_pure, natI_pure, natS_pure]) (by simp [AV.pure, AV.pureL, natA_pure, natI_pure, natS_pure]) ?_
  refine callOk_told (x := rS m q) told_rS (by simp) (by simp [AV.pure, AV.pureL, natA_pure, natI_pure, natS_pure]) fun ha => ?_
  obtain ⟨l1, l2⟩ := numS_len ha
  have h1 := w_sNatText (n := q.num.natAbs) (by have := len9 ha.1; omega)
  have h2 := w_sNatText (n := q.den) (by have := len9 ha.2; omega)
  have h3 := w_sCmp1 (a := q.den) (by have := len9 ha.2; omega)
  rw [rS_eq ha, ratS, qd, numS]
  simp only [natS] at h1 h2 h3
  generalize Lib.decDigits q.num.natAbs = s1 at *
  generalize Lib.decDigits q.den = s2 at *
  by_cases c1 : q.num < 0 <;> by_cases c2 : q.den = 1
  · rw [c2, cmpI_eq] at h3
    simp only [c1, c2, decide_true, if_true]
    rw [c2] at h2
    (refine callOk_of_wpc (W := fun _ => false) false hm' Tryz.func114 rfl (by kernel_rfl) (Nat.le_of_ble_eq_true rfl) (go_start ?_); generalize hQ : Post Tryz.prog Tryz.f114 _ _ _ _ _ = Q; simp only [stIn, matL, matA, st00, natS])
    simp (disch := omega) only [go_sem, ↓k_cond, ↓x_idx, ↓k_block, Nat.reduceEqDiff, Nat.reduceBEq, ↓reduceIte, reduceCtorEq, h1, h2, h3, List.length_append, List.length_cons, List.length_nil]
    (repeat (with_reducible refine Or.inr ?_))
    rw [← hQ]
    exact post_one (.inl rfl) rfl (by simp [upd_app]) rfl
  · have hc0 : cmpI q.den 1 ≠ 0 := cmpI_ne c2
    simp only [c1, c2, decide_true, if_true, if_false]
    (refine callOk_of_wpc (W := fun _ => false) false hm' Tryz.func114 rfl (by kernel_rfl) (Nat.le_of_ble_eq_true rfl) (go_start ?_); generalize hQ : Post Tryz.prog Tryz.f114 _ _ _ _ _ = Q; simp only [stIn, matL, matA, st00, natS])
    simp (disch := omega) only [go_sem, ↓k_cond, ↓x_idx, ↓k_block, Nat.reduceEqDiff, Nat.reduceBEq, ↓reduceIte, reduceCtorEq, h1, h2, h3, List.length_append, List.length_cons, List.length_nil]
    (repeat (with_reducible refine Or.inr ?_))
    rw [← hQ]
    exact post_one (.inl rfl) rfl (by simp [upd_app]) rfl
  · rw [c2, cmpI_eq] at h3
    simp only [c1, c2, decide_false, if_true, if_false]
    rw [c2] at h2
    (refine callOk_of_wpc (W := fun _ => false) false hm' Tryz.func114 rfl (by kernel_rfl) (Nat.le_of_ble_eq_true rfl) (go_start ?_); generalize hQ : Post Tryz.prog Tryz.f114 _ _ _ _ _ = Q; simp only [stIn, matL, matA, st00, natS])
    simp (disch := omega) only [go_sem, ↓k_cond, ↓x_idx, ↓k_block, Nat.reduceEqDiff, Nat.reduceBEq, ↓reduceIte, reduceCtorEq, h1, h2, h3, List.length_append, List.length_cons, List.length_nil]
    (repeat (with_reducible refine Or.inr ?_))
    rw [← hQ]
    exact post_one (.inl rfl) rfl (by simp [upd_app]) rfl
  · have hc0 : cmpI q.den 1 ≠ 0 := cmpI_ne c2
    simp only [c1, c2, decide_false, if_false]
    (refine callOk_of_wpc (W := fun _ => false) false hm' Tryz.func114 rfl (by kernel_rfl) (Nat.le_of_ble_eq_true rfl) (go_start ?_); generalize hQ : Post Tryz.prog Tryz.f114 _ _ _ _ _ = Q; simp only [stIn, matL, matA, st00, natS])
    simp (disch := omega) only [go_sem, ↓k_cond, ↓x_idx, ↓k_block, Nat.reduceEqDiff, Nat.reduceBEq, ↓reduceIte, reduceCtorEq, h1, h2, h3, List.length_append, List.length_cons, List.length_nil]
    (repeat (with_reducible refine Or.inr ?_))
    rw [← hQ]
    exact post_one (.inl rfl) rfl (by simp [upd_app]) rfl
attribute [go_sem] w_sShow
theorem w_sGive {m : Nat} {q : Rat} (h : m ≤ 274877906944) : CW Tryz.prog 84 [rS m q] (optT (toldR q)) := by
  refine cw (by kernel_rfl) (by simp [AV.pure, AV.pureL, natA_pure, natI_pure, natS_pure]) (by simp [AV.pure, AV.pureL, natA_pure, natI_pure, natS_pure]) ?_
  have h1 := w_sFits (m := m) (q := q) h
  have h2 := w_sShow (m := m) (q := q) h
  rw [toldR]
  by_cases c : okR q = true
  · rw [if_pos c, optT_s]
    rw [c] at h1
    (refine callOk_of_wpc (W := fun _ => false) false hm' Tryz.func84 rfl (by kernel_rfl) (Nat.le_of_ble_eq_true rfl) (go_start ?_); generalize hQ : Post Tryz.prog Tryz.f84 _ _ _ _ _ = Q; simp only [stIn, matL, matA, st00])
    simp (disch := omega) only [go_sem, ↓k_cond, ↓x_idx, ↓k_block, Nat.reduceEqDiff, Nat.reduceBEq, ↓reduceIte, reduceCtorEq, h1, h2]
    (repeat (with_reducible refine Or.inr ?_))
    rw [← hQ]
    exact post_two (.inl rfl) rfl (by simp [upd_app] <;> omega) (by simp [upd_app] <;> omega) rfl rfl
  · rw [if_neg c, optT_n]
    simp only [Bool.not_eq_true] at c
    rw [c] at h1
    (refine callOk_of_wpc (W := fun _ => false) false hm' Tryz.func84 rfl (by kernel_rfl) (Nat.le_of_ble_eq_true rfl) (go_start ?_); generalize hQ : Post Tryz.prog Tryz.f84 _ _ _ _ _ = Q; simp only [stIn, matL, matA, st00])
    simp (disch := omega) only [go_sem, ↓k_cond, ↓x_idx, ↓k_block, Nat.reduceEqDiff, Nat.reduceBEq, ↓reduceIte, reduceCtorEq, h1]
    (repeat (with_reducible refine Or.inr ?_))
    rw [← hQ]
    exact post_two (.inl rfl) rfl (by simp [upd_app] <;> omega) (by simp [upd_app] <;> omega) rfl rfl
attribute [go_sem] w_sGive
theorem w_sGive2 {m : Nat} {q : Rat} (h : m ≤ 274877906944) : CW Tryz.prog 29 [rS m q] (optT (toldR q)) := by
 refine cw (by kernel_rfl) (by simp [AV.pure, AV.pureL, natA_pure, natI_pure, natS_pure]) (by simp [AV.pure, AV.pureL, natA_pure, natI_pure, natS_pure]) ?_
 have h1 := w_sGive (m := m) (q := q) h
 cases hq : toldR q with
 | none =>
  rw [hq] at h1
  (refine callOk_of_wpc (W := fun _ => false) false hm' Tryz.func29 rfl (by kernel_rfl) (Nat.le_of_ble_eq_true rfl) (go_start ?_); generalize hQ : Post Tryz.prog Tryz.f29 _ _ _ _ _ = Q; simp only [stIn, matL, matA, st00])
  simp (disch := omega) only [go_sem, ↓k_cond, ↓x_idx, ↓k_block, Nat.reduceEqDiff, Nat.reduceBEq, ↓reduceIte, reduceCtorEq, h1]
  (repeat (with_reducible refine Or.inr ?_))
  rw [← hQ]
  exact post_two (.inl rfl) rfl (by simp [upd_app] <;> omega) (by simp [upd_app] <;> omega) rfl rfl
 | some s =>
  rw [hq] at h1
  (refine callOk_of_wpc (W := fun _ => false) false hm' Tryz.func29 rfl (by kernel_rfl) (Nat.le_of_ble_eq_true rfl) (go_start ?_); generalize hQ : Post Tryz.prog Tryz.f29 _ _ _ _ _ = Q; simp only [stIn, matL, matA, st00])
  simp (disch := omega) only [go_sem, ↓k_cond, ↓x_idx, ↓k_block, Nat.reduceEqDiff, Nat.reduceBEq, ↓reduceIte, reduceCtorEq, h1]
  (repeat (with_reducible refine Or.inr ?_))
  rw [← hQ]
  exact post_two (.inl rfl) rfl (by simp [upd_app] <;> omega) (by simp [upd_app] <;> omega) rfl rfl
def optTL : Option (List (List UInt8)) → AV
 | some ts => .tup [.own 9 (strA ts) [] false, .bool true]
 | none => .tup [.nil, .bool false]
theorem s_GiveAll {m : Nat} {qs : List Rat} (hmb : m ≤ 274877906944) (hl : qs.length ≤ 1000) (h0 : qs ≠ []) : CallOk Tryz.prog 99 [lS m qs] (optTL (qs.mapM toldR)) [] := by
  obtain ⟨n, hn⟩ : ∃ n, qs.length = n := ⟨_, rfl⟩
  have hn0 := List.length_pos_iff.2 h0
  rw [hn] at hl hn0
  (refine callOk_of_wpc (W := fun _ => false) true hm' Tryz.func99 rfl (by kernel_rfl) (Nat.le_of_ble_eq_true rfl) (go_start ?_); generalize hQ : Post Tryz.prog Tryz.f99 _ _ _ _ _ = Q; simp only [stIn, matL, matA, st00])
  simp (disch := omega) only [go_sem, ↓k_cond, ↓x_idx, ↓k_block, Nat.reduceEqDiff, Nat.reduceBEq, ↓reduceIte, reduceCtorEq, hn]
  refine k_loop (fun (⟨i, ts⟩ : Nat × List (List UInt8)) st => st.fr 0 = lS m qs ∧ st.fr 4 = .ref 0 i 0 i ∧ st.fr 10 = .int .i64 n ∧ st.fr 11 = .int .i64 i ∧ st.h 0 = ⟨9, strA ts, (i == 0), true, true⟩ ∧ 0 < st.nx ∧ (ts.length = i) ∧ (i ≤ n) ∧ ((qs.take i).mapM toldR = some ts)) (fun (⟨i, ts⟩ : Nat × List (List UInt8)) => n - i) (0, [])
    ⟨(by simp [upd_app, strA] <;> omega), (by simp [upd_app, strA] <;> omega), (by simp [upd_app, strA] <;> omega), (by simp [upd_app, strA] <;> omega), (by simp [upd_app, strA] <;> omega), (by simp <;> omega), rfl, by omega, rfl⟩ ?_
  rintro ⟨i, ts⟩ ⟨fr, h, nx⟩ ⟨g0, g4, g10, g11, hm0, hnx, htl, hi, hq⟩ J hJ
  simp only at g0 g4 g10 g11 hm0 hnx
  by_cases hin : i < n
  · obtain ⟨q, hqi⟩ := get_some (xs := qs) (i := i) (by omega)
    have hg := w_sGive (m := m) (q := q) hmb
    cases hp : toldR q with
    | none =>
      rw [mapM_fail hqi hp, optTL] at hQ
      rw [hp] at hg
      simp (disch := omega) only [go_sem, ↓k_cond, ↓x_idx, ↓k_block, Nat.reduceEqDiff, Nat.reduceBEq, ↓reduceIte, reduceCtorEq, g0, g4, g10, g11, hqi, hg]
      (repeat (with_reducible refine Or.inr ?_))
      rw [← hQ]
      exact postT_two (.inl rfl) rfl (by simp [upd_app] <;> omega) (by simp [upd_app] <;> omega) rfl rfl
    | some s =>
      have hmt := mapM_take hq hqi hp
      rw [hp] at hg
      have hel : (strA ts).length = i := by rw [strA_length, htl]
      simp (disch := omega) only [go_sem, ↓k_cond, ↓x_idx, ↓k_block, Nat.reduceEqDiff, Nat.reduceBEq, ↓reduceIte, reduceCtorEq, g0, g4, g10, g11, hqi, hg, hm0, hel, reach]
      (repeat (with_reducible refine Or.inr ?_))
      exact hJ (i + 1, ts ++ [s]) _ ⟨(by simp [upd_app, g0] <;> omega), (by simp [upd_app] <;> omega), (by simp [upd_app, g10] <;> omega), (by simp [upd_app] <;> omega), by simp [upd_app, strA], (by simp <;> omega), by simp [htl], hin, hmt⟩ (by simp only; omega)
  · obtain rfl : i = n := by omega
    rw [List.take_of_length_le (by omega)] at hq
    rw [hq, optTL] at hQ
    simp (disch := omega) only [go_sem, ↓k_cond, ↓x_idx, ↓k_block, Nat.reduceEqDiff, Nat.reduceBEq, ↓reduceIte, reduceCtorEq, g0, g4, g10, g11]
    rw [← hQ]
    have hz : (i == 0) = false := by simp; omega
    exact post_ownB (id := 0) (n := i) (len := i) (.inl rfl) rfl (by simp [upd_app] <;> omega) (by simp [upd_app] <;> omega) (by simp [hm0]) (by simp [hm0, strA_length, htl]) (by simp [hm0]) (by simp [hm0]) (Nat.le_refl _) (by simp only [hm0]; exact List.take_of_length_le (by rw [strA_length, htl]; exact Nat.le_refl _)) (by simp [hm0, hz]) (by simp [hm0, hz]) (strA_pure _) rfl
theorem s_GiveAll2 {m : Nat} {qs : List Rat} (hmb : m ≤ 274877906944) (hl : qs.length ≤ 1000) (h0 : qs ≠ []) : CallOk Tryz.prog 40 [lS m qs] (optTL (qs.mapM toldR)) [] := by
 have h1 := s_GiveAll hmb hl h0
 cases hq : qs.mapM toldR with
 | none =>
  rw [hq, optTL] at h1
  have hw := cw (by kernel_rfl) (by simp [AV.pure, AV.pureL, natA_pure, natI_pure, natS_pure]) (by simp [AV.pure, AV.pureL, natA_pure, natI_pure, natS_pure]) h1
  rw [optTL]
  (refine callOk_of_wpc (W := fun _ => false) true hm' Tryz.func40 rfl (by kernel_rfl) (Nat.le_of_ble_eq_true rfl) (go_start ?_); generalize hQ : Post Tryz.prog Tryz.f40 _ _ _ _ _ = Q; simp only [stIn, matL, matA, st00])
  simp (disch := omega) only [go_sem, ↓k_cond, ↓x_idx, ↓k_block, Nat.reduceEqDiff, Nat.reduceBEq, ↓reduceIte, reduceCtorEq, hw]
  (repeat (with_reducible refine Or.inr ?_))
  rw [← hQ]
  exact postT_two (.inl rfl) rfl (by simp [upd_app] <;> omega) (by simp [upd_app] <;> omega) rfl rfl
 | some ts =>
  rw [hq, optTL] at h1
  have hw := cwtW (W := fun g => g == 99) rfl (cwt (by kernel_rfl) (by simp [AV.pure, AV.pureL, natA_pure, natI_pure, natS_pure]) (strA_pure ts) rfl h1)
  have htl : ts.length ≤ 1000 := by rw [mapM_len hq]; exact hl
  rw [optTL]
  (refine callOk_of_wpc (W := fun g => g == 99) true hm' Tryz.func40 rfl (by kernel_rfl) (Nat.le_of_ble_eq_true rfl) (go_start ?_); generalize hQ : Post Tryz.prog Tryz.f40 _ _ _ _ _ = Q; simp only [stIn, matL, matA, st00])
  simp (disch := omega) only [go_sem, ↓k_cond, ↓x_idx, ↓k_block, Nat.reduceEqDiff, Nat.reduceBEq, ↓reduceIte, reduceCtorEq, hw]
  (repeat (with_reducible refine Or.inr ?_))
  rw [← hQ]
  exact post_ownB (id := 0) (n := ts.length) (len := ts.length) (.inl rfl) rfl (by simp [upd_app, strA_length]) (by simp [upd_app] <;> omega) (by simp [upd_app]) (by simp [upd_app, strA_length]) (by simp [upd_app]) (by simp [upd_app]) (Nat.le_refl _) (by simp only [upd_app, if_true, List.append_nil]; exact List.take_of_length_le (by rw [strA_length]; exact Nat.le_refl _)) (by simp [upd_app]) (by simp [upd_app]) (strA_pure _) rfl
attribute [go_sem] w_sGive2
theorem w_l08Parse {xs : List (List UInt8)} (hl : xs.length < 9223372036854775808) (hs : ∀ x ∈ xs, x.length ≤ 1000000) : CW Tryz.prog 24 [.sl 9 (strA xs) [] false] (optLS (serR xs)) := by
  refine cw (by kernel_rfl) (by simp [AV.pure, AV.pureL, natA_pure, natI_pure, natS_pure]) (by simp [AV.pure, AV.pureL, natA_pure, natI_pure, natS_pure]) ?_
  have h1 := w_sList (xs := xs) hl hs
  obtain ⟨n, hn⟩ : ∃ n, xs.length = n := ⟨_, rfl⟩
  rw [serR, hn]
  rw [hn] at hl
  by_cases c1 : 1 ≤ n
  · by_cases c2 : n ≤ 13
    · rw [if_pos ⟨c1, c2⟩]
      cases hq : listR xs with
      | none =>
        rw [hq] at h1
        (refine callOk_of_wpc (W := fun _ => false) false hm' Tryz.func24 rfl (by kernel_rfl) (Nat.le_of_ble_eq_true rfl) (go_start ?_); generalize hQ : Post Tryz.prog Tryz.f24 _ _ _ _ _ = Q; simp only [stIn, matL, matA, st00])
        simp (disch := omega) only [go_sem, ↓k_cond, ↓x_idx, ↓k_block, Nat.reduceEqDiff, Nat.reduceBEq, ↓reduceIte, reduceCtorEq, h1, strA_length, hn]
        (repeat (with_reducible refine Or.inr ?_))
        rw [← hQ]
        exact post_two (.inl rfl) rfl (by simp [upd_app] <;> omega) (by simp [upd_app] <;> omega) rfl rfl
      | some qs =>
        rw [hq] at h1
        (refine callOk_of_wpc (W := fun _ => false) false hm' Tryz.func24 rfl (by kernel_rfl) (Nat.le_of_ble_eq_true rfl) (go_start ?_); generalize hQ : Post Tryz.prog Tryz.f24 _ _ _ _ _ = Q; simp only [stIn, matL, matA, st00])
        simp (disch := omega) only [go_sem, ↓k_cond, ↓x_idx, ↓k_block, Nat.reduceEqDiff, Nat.reduceBEq, ↓reduceIte, reduceCtorEq, h1, strA_length, hn]
        (repeat (with_reducible refine Or.inr ?_))
        rw [← hQ]
        exact post_two (.inl rfl) rfl (by simp [upd_app] <;> omega) (by simp [upd_app] <;> omega) (by simp [AV.pure, AV.pureL, natA_pure, natI_pure, natS_pure]) rfl
    · rw [if_neg (by omega)]
      (refine callOk_of_wpc (W := fun _ => false) false hm' Tryz.func24 rfl (by kernel_rfl) (Nat.le_of_ble_eq_true rfl) (go_start ?_); generalize hQ : Post Tryz.prog Tryz.f24 _ _ _ _ _ = Q; simp only [stIn, matL, matA, st00])
      simp (disch := omega) only [go_sem, ↓k_cond, ↓x_idx, ↓k_block, Nat.reduceEqDiff, Nat.reduceBEq, ↓reduceIte, reduceCtorEq, strA_length, hn]
      rw [← hQ]
      exact post_two (.inl rfl) rfl (by simp [upd_app] <;> omega) (by simp [upd_app] <;> omega) rfl rfl
  · rw [if_neg (by omega)]
    obtain rfl : n = 0 := by omega
    (refine callOk_of_wpc (W := fun _ => false) false hm' Tryz.func24 rfl (by kernel_rfl) (Nat.le_of_ble_eq_true rfl) (go_start ?_); generalize hQ : Post Tryz.prog Tryz.f24 _ _ _ _ _ = Q; simp only [stIn, matL, matA, st00])
    simp (disch := omega) only [go_sem, ↓k_cond, ↓x_idx, ↓k_block, Nat.reduceEqDiff, Nat.reduceBEq, ↓reduceIte, reduceCtorEq, strA_length, hn]
    rw [← hQ]
    exact post_two (.inl rfl) rfl (by simp [upd_app] <;> omega) (by simp [upd_app] <;> omega) rfl rfl
attribute [go_sem] w_l08Parse
theorem w_l08Factors {qs : List Rat} {n : Nat} (hl : qs.length ≤ 13) (hn6 : n ≤ 6) : CW Tryz.prog 61 [lS 700 qs, .int .i64 n] (rS (64 + qs.length * 765) (facSum qs n qs.length)) := by
  refine cw (by kernel_rfl) (by simp [AV.pure, AV.pureL, natA_pure, natI_pure, natS_pure]) (by simp [AV.pure, AV.pureL, natA_pure, natI_pure, natS_pure]) ?_
  obtain ⟨L, hL⟩ : ∃ n, qs.length = n := ⟨_, rfl⟩
  rw [hL] at hl ⊢
  (refine callOk_of_wpc (W := fun _ => false) false hm' Tryz.func61 rfl (by kernel_rfl) (Nat.le_of_ble_eq_true rfl) (go_start ?_); generalize hQ : Post Tryz.prog Tryz.f61 _ _ _ _ _ = Q; simp only [stIn, matL, matA, st00])
  simp (disch := omega) only [go_sem, ↓k_cond, ↓x_idx, ↓k_block, Nat.reduceEqDiff, Nat.reduceBEq, ↓reduceIte, reduceCtorEq, hL]
  (repeat (with_reducible refine Or.inr ?_))
  refine k_loop (fun (k : Nat) st => st.fr 0 = lS 700 qs ∧ st.fr 1 = .int .i64 n ∧ st.fr 4 = .ptr 0 1 0 0 ∧ st.fr 5 = .ptr 1 1 0 0 ∧ st.fr 6 = .int .i64 k ∧ st.h 0 = ⟨39, [.agg [.bool false, .nil, .nil]], true, false, true⟩ ∧ st.h 1 = ⟨39, [rS (64 + k * 765) (facSum qs n k)], true, false, true⟩ ∧ 1 < st.nx ∧ (k ≤ L)) (fun (k : Nat) => L - k) (0)
    ⟨(by simp [upd_app, facSum] <;> omega), (by simp [upd_app, facSum] <;> omega), (by simp [upd_app, facSum] <;> omega), (by simp [upd_app, facSum] <;> omega), (by simp [upd_app, facSum] <;> omega), (by simp [upd_app, facSum] <;> omega), (by simp [upd_app, facSum] <;> omega), (by simp <;> omega), by omega⟩ ?_
  rintro k ⟨fr, h, nx⟩ ⟨g0, g1, g4, g5, g6, hm0, hm1, hnx, hk⟩ J hJ
  simp only at g0 g1 g4 g5 g6 hm0 hm1 hnx
  by_cases hin : k < L
  · obtain ⟨q, hq⟩ := get_some (xs := qs) (i := k) (by omega)
    have hgd : qs.getD k 0 = q := by rw [List.getD_eq_getElem?_getD, hq]; rfl
    have keyJ := hJ (k + 1)
    have e : 64 + (k + 1) * 765 = 64 + k * 765 + (64 + 700) + 1 := by omega
    rw [facSum, hgd, e, Rat.mul_comm q] at keyJ
    clear hJ
    simp (disch := omega) only [go_sem, ↓k_cond, ↓x_idx, ↓k_block, Nat.reduceEqDiff, Nat.reduceBEq, ↓reduceIte, reduceCtorEq, g0, g1, g4, g5, g6, hL]
    refine k_loop (fun (i : Nat) st => st.fr 0 = lS 700 qs ∧ st.fr 1 = .int .i64 n ∧ st.fr 4 = .ptr 0 1 0 0 ∧ st.fr 5 = .ptr 1 1 0 0 ∧ st.fr 6 = .int .i64 k ∧ st.fr 7 = .int .i64 (facP k i) ∧ st.fr 8 = .int .i64 i ∧ st.h = h ∧ st.nx = nx ∧ i ≤ n) (fun i => n - i) 0
      ⟨(by simp [upd_app, g0] <;> omega), (by simp [upd_app, g1] <;> omega), (by simp [upd_app, g4] <;> omega), (by simp [upd_app, g5] <;> omega), (by simp [upd_app, g6] <;> omega), by simp [upd_app, facP], (by simp [upd_app] <;> omega), rfl, rfl, by omega⟩ ?_
    rintro i ⟨fr2, h2, nx2⟩ ⟨r0, r1, r4, r5, r6, r7, r8, eh, enx, hi⟩ J2 hJ2
    simp only at r0 r1 r4 r5 r6 r7 r8 eh enx
    subst eh enx
    by_cases hin2 : i < n
    · have hw := facP_wrap (k := k) (i := i) (by omega) (by omega)
      simp (disch := omega) only [go_sem, ↓k_cond, ↓x_idx, ↓k_block, Nat.reduceEqDiff, Nat.reduceBEq, ↓reduceIte, reduceCtorEq, r0, r1, r4, r5, r6, r7, r8, hw]
      exact hJ2 (i + 1) _ ⟨(by simp [upd_app, r0] <;> omega), (by simp [upd_app, r1] <;> omega), (by simp [upd_app, r4] <;> omega), (by simp [upd_app, r5] <;> omega), (by simp [upd_app, r6] <;> omega), (by simp [upd_app] <;> omega), (by simp [upd_app] <;> omega), rfl, rfl, hin2⟩ (by omega)
    · obtain rfl : i = n := by omega
      have hb := facP_lt (k := k) (i := i) (by omega) hn6
      simp (disch := omega) only [go_sem, ↓k_cond, ↓x_idx, ↓k_block, Nat.reduceEqDiff, Nat.reduceBEq, ↓reduceIte, reduceCtorEq, r0, r1, r4, r5, r6, r7, r8, hq, hm0, hm1]
      (repeat (with_reducible refine Or.inr ?_))
      exact keyJ _ ⟨(by simp [upd_app, r0] <;> omega), (by simp [upd_app, r1] <;> omega), (by simp [upd_app, r4] <;> omega), (by simp [upd_app, r5] <;> omega), (by simp [upd_app] <;> omega), (by simp [upd_app, hm0] <;> omega), (by simp [upd_app] <;> omega), (by simp <;> omega), hin⟩ (by omega)
  · obtain rfl : k = L := by omega
    simp (disch := omega) only [go_sem, ↓k_cond, ↓x_idx, ↓k_block, Nat.reduceEqDiff, Nat.reduceBEq, ↓reduceIte, reduceCtorEq, g0, g1, g4, g5, g6, hm0, hm1, hL]
    (repeat (with_reducible refine Or.inr ?_))
    rw [← hQ]
    exact post_cell1 (id := 0) (x := rS (64 + k * 765) (facSum qs n k)) (.inl rfl) rfl o_sRat (by simp [upd_app, g4] <;> omega) (by simp [upd_app]) (by simp [upd_app]) ld_sRat (by simp [AV.pure, AV.pureL])
attribute [go_sem] w_l08Factors
theorem optTL_solid : ∀ o : Option (List (List UInt8)), (optTL o).solid = true
 | none => rfl
 | some ts => by
  have : ∀ xs : List (List UInt8), AV.solidL (strA xs) = true := by
   intro xs
   induction xs with
   | nil => rfl
   | cons x xs ih => simp only [strA, List.map_cons, AV.solidL] at ih ⊢; rw [ih]; rfl
  simp [optTL, AV.solid, AV.solidL, this]
theorem endSP {W : FuncId → Bool} {d : Tmp} {ops : Array Oper} {os : List Oper} {fr : Nat → AV} {h : Nat → Blk} {nx m : Nat} {K : St → Prop} {t : TokC ⟨some d, ops, os, fr, h, nx, K⟩} {qs : List Rat} (hm : m ≤ 274877906944) (hl : qs.length ≤ 1000) (h0 : qs ≠ []) (hW : W 40 = true)
  (k1 : qs.mapM toldR = none → wpos Tryz.prog W ops os ⟨upd fr d (.tup [.nil, .bool false]), h, nx⟩ K)
  (k2 : ∀ ts, qs.mapM toldR = some ts → wpos Tryz.prog W ops os ⟨upd fr d (.tup [.ref nx ts.length 0 ts.length, .bool true]), upd h nx ⟨9, strA ts, false, true, true⟩, nx + 1⟩ K) :
  callW Tryz.prog W 40 [lS m qs] ⟨some d, ops, os, fr, h, nx, K⟩ t := by
 have hc := s_GiveAll2 (m := m) (qs := qs) hm hl h0
 cases hq : qs.mapM toldR with
 | none =>
  rw [hq] at hc
  exact callW_X hc (by kernel_rfl) (snapL_pure (by simp [AV.pure, AV.pureL, natA_pure, natI_pure, natS_pure])) rfl (matA_pure _ _ _ rfl) hW (k1 hq)
 | some ts =>
  rw [hq] at hc
  refine callW_X hc (by kernel_rfl) (snapL_pure (by simp [AV.pure, AV.pureL, natA_pure, natI_pure, natS_pure])) (optTL_solid (some ts)) (matA_ownB (strA_pure ts) rfl) hW ?_
  have := k2 ts hq
  simpa [strA_length, St.put] using this
theorem w_l08Less {x y : List Rat} (hl : x.length ≤ 1000) (hxy : x.length = y.length) (h1 : 1 ≤ x.length) : CW Tryz.prog 65 [lS 700 x, lS 700 y] (lS 1401 (lesL x y)) := by
  refine cw (by kernel_rfl) (by simp [AV.pure, AV.pureL, natA_pure, natI_pure, natS_pure]) (by simp [AV.pure, AV.pureL, natA_pure, natI_pure, natS_pure]) ?_
  obtain ⟨L, hL⟩ : ∃ n, x.length = n := ⟨_, rfl⟩
  rw [lesL]
  rw [hL] at hl hxy h1 ⊢
  (refine callOk_of_wpc (W := fun _ => false) false hm' Tryz.func65 rfl (by kernel_rfl) (Nat.le_of_ble_eq_true rfl) (go_start ?_); generalize hQ : Post Tryz.prog Tryz.f65 _ _ _ _ _ = Q; simp only [stIn, matL, matA, st00])
  simp (disch := omega) only [go_sem, ↓k_cond, ↓x_idx, ↓k_block, Nat.reduceEqDiff, Nat.reduceBEq, ↓reduceIte, reduceCtorEq, hL]
  refine k_loop (fun (i : Nat) st => st.fr 0 = lS 700 x ∧ st.fr 1 = lS 700 y ∧ st.fr 5 = .ref 0 i 0 i ∧ st.fr 6 = .int .i64 i ∧ st.h 0 = ⟨39, ratM 1401 (mapF i (lesF x y)), (i == 0), true, true⟩ ∧ 0 < st.nx ∧ (i ≤ L)) (fun (i : Nat) => L - i) (0)
    ⟨(by simp [upd_app, ratM, mapF] <;> omega), (by simp [upd_app, ratM, mapF] <;> omega), (by simp [upd_app, ratM, mapF] <;> omega), (by simp [upd_app, ratM, mapF] <;> omega), (by simp [upd_app, ratM, mapF] <;> omega), (by simp <;> omega), by omega⟩ ?_
  rintro i ⟨fr, h, nx⟩ ⟨g0, g1, g5, g6, hm0, hnx, hi⟩ J hJ
  simp only at g0 g1 g5 g6 hm0 hnx
  by_cases hin : i < L
  · obtain ⟨p, hp⟩ := get_some (xs := x) (i := i) (by omega)
    obtain ⟨q, hq⟩ := get_some (xs := y) (i := i) (by omega)
    have hel : (ratM 1401 (mapF i (lesF x y))).length = i := by rw [ratM_length, mapF_len]
    have hz1 : (i + 1 == 0) = false := by simp
    have hsn : ratM 1401 (mapF i (lesF x y)) ++ [rS 1401 (p - q)] = ratM 1401 (mapF (i + 1) (lesF x y)) := by rw [mapF_succ, ratM_snoc, lesF, getD_of hp, getD_of hq]
    simp (disch := omega) only [go_sem, ↓k_cond, ↓x_idx, ↓k_block, Nat.reduceEqDiff, Nat.reduceBEq, ↓reduceIte, reduceCtorEq, g0, g1, g5, g6, hp, hq, hL, hm0, hel, reach, Nat.reduceAdd]
    (repeat (with_reducible refine Or.inr ?_))
    exact hJ (i + 1) _ ⟨(by simp [upd_app, g0] <;> omega), (by simp [upd_app, g1] <;> omega), (by simp [upd_app] <;> omega), (by simp [upd_app] <;> omega), by simp only [upd_app, ↓reduceIte, Nat.reduceEqDiff, hsn, hz1], (by simp <;> omega), by omega⟩ (by first | omega | (simp only; omega))
  · obtain rfl : i = L := by omega
    simp (disch := omega) only [go_sem, ↓k_cond, ↓x_idx, ↓k_block, Nat.reduceEqDiff, Nat.reduceBEq, ↓reduceIte, reduceCtorEq, g0, g1, g5, g6, hL]
    rw [← hQ]
    exact post_frozen (id := 0) (n := i) (off := 0) (len := i) (.inl rfl) rfl (by simp [upd_app] <;> omega) (by simp [hm0]) (by simp [hm0, ratM_length, mapF_len]) (by simp [hm0]) (by omega) (Nat.zero_le _) (by simp only [hm0, List.drop_zero]; exact List.take_of_length_le (by rw [ratM_length, mapF_len]; exact Nat.le_refl _)) (by simp [AV.pure, AV.pureL, natA_pure, natI_pure, natS_pure])
attribute [go_sem] w_l08Less
theorem all_take {qs : List Rat} {f : Rat → Bool} {i : Nat} {q : Rat} (h : qs[i]? = some q) : (qs.take (i + 1)).all f = ((qs.take i).all f && f q) := by
 rw [List.take_add_one, h]; simp
theorem all_bad {qs : List Rat} {f : Rat → Bool} {i : Nat} {q : Rat} (h : qs[i]? = some q) (hf : f q = false) : qs.all f = false := by
 simp only [List.all_eq_false]
 exact ⟨q, List.mem_of_getElem? h, by simp [hf]⟩
theorem w_sPositive {qs : List Rat} (hl : qs.length ≤ 1000) : CW Tryz.prog 122 [lS 700 qs] (.bool (qs.all fun q => !decide (q < 0))) := by
  refine cw (by kernel_rfl) (by simp [AV.pure, AV.pureL, natA_pure, natI_pure, natS_pure]) (by simp [AV.pure, AV.pureL, natA_pure, natI_pure, natS_pure]) ?_
  obtain ⟨L, hL⟩ : ∃ n, qs.length = n := ⟨_, rfl⟩
  rw [hL] at hl
  (refine callOk_of_wpc (W := fun _ => false) false hm' Tryz.func122 rfl (by kernel_rfl) (Nat.le_of_ble_eq_true rfl) (go_start ?_); generalize hQ : Post Tryz.prog Tryz.f122 _ _ _ _ _ = Q; simp only [stIn, matL, matA, st00])
  simp (disch := omega) only [go_sem, ↓k_cond, ↓x_idx, ↓k_block, Nat.reduceEqDiff, Nat.reduceBEq, ↓reduceIte, reduceCtorEq, hL]
  refine k_loop (fun (i : Nat) st => st.fr 0 = lS 700 qs ∧ st.fr 5 = .int .i64 L ∧ st.fr 6 = .int .i64 i ∧ i ≤ L ∧ (qs.take i).all (fun q => !decide (q < 0)) = true) (fun i => L - i) 0 ⟨(by simp [upd_app] <;> omega), (by simp [upd_app] <;> omega), (by simp [upd_app] <;> omega), by omega, rfl⟩ ?_
  rintro i ⟨fr, h, nx⟩ ⟨g0, g5, g6, hi, ha⟩ J hJ
  simp only at g0 g5 g6
  by_cases hin : i < L
  · obtain ⟨q, hq⟩ := get_some (xs := qs) (i := i) (by omega)
    have hnn := num_neg q
    by_cases hneg : q < 0
    · rw [all_bad hq (by simp [hneg])] at hQ
      rw [decide_eq_true hneg] at hnn
      simp (disch := omega) only [go_sem, ↓k_cond, ↓x_idx, ↓k_block, Nat.reduceEqDiff, Nat.reduceBEq, ↓reduceIte, reduceCtorEq, g0, g5, g6, hq, hnn]
      rw [← hQ]
      exact post_one (.inl rfl) rfl (by simp [upd_app] <;> omega) rfl
    · rw [decide_eq_false hneg] at hnn
      simp (disch := omega) only [go_sem, ↓k_cond, ↓x_idx, ↓k_block, Nat.reduceEqDiff, Nat.reduceBEq, ↓reduceIte, reduceCtorEq, g0, g5, g6, hq, hnn]
      exact hJ (i + 1) _ ⟨(by simp [upd_app, g0] <;> omega), (by simp [upd_app, g5] <;> omega), (by simp [upd_app] <;> omega), hin, by rw [all_take hq, ha]; simp [hneg]⟩ (by omega)
  · obtain rfl : i = L := by omega
    rw [List.take_of_length_le (by omega)] at ha
    rw [ha] at hQ
    simp (disch := omega) only [go_sem, ↓k_cond, ↓x_idx, ↓k_block, Nat.reduceEqDiff, Nat.reduceBEq, ↓reduceIte, reduceCtorEq, g0, g5, g6]
    rw [← hQ]
    exact post_one (.inl rfl) rfl (by simp [upd_app] <;> omega) rfl
attribute [go_sem] w_sPositive
theorem w_sTotal {m : Nat} {qs : List Rat} (hm : m ≤ 100000) (hl : qs.length ≤ 1000) : CW Tryz.prog 124 [lS m qs] (rS (64 + qs.length * (m + 1)) (sumL qs)) := by
  refine cw (by kernel_rfl) (by simp [AV.pure, AV.pureL, natA_pure, natI_pure, natS_pure]) (by simp [AV.pure, AV.pureL, natA_pure, natI_pure, natS_pure]) ?_
  obtain ⟨n, hn⟩ : ∃ n, qs.length = n := ⟨_, rfl⟩
  rw [hn] at hl ⊢
  (refine callOk_of_wpc (W := fun _ => false) false hm' Tryz.func124 rfl (by kernel_rfl) (Nat.le_of_ble_eq_true rfl) (go_start ?_); generalize hQ : Post Tryz.prog Tryz.f124 _ _ _ _ _ = Q; simp only [stIn, matL, matA, st00])
  simp (disch := omega) only [go_sem, ↓k_cond, ↓x_idx, ↓k_block, Nat.reduceEqDiff, Nat.reduceBEq, ↓reduceIte, reduceCtorEq, hn]
  (repeat (with_reducible refine Or.inr ?_))
  refine k_loop (fun (i : Nat) st => st.fr 0 = lS m qs ∧ st.fr 2 = .ptr 0 1 0 0 ∧ st.fr 3 = .ptr 1 1 0 0 ∧ st.fr 7 = .int .i64 n ∧ st.fr 8 = .int .i64 i ∧ st.h 0 = ⟨39, [.agg [.bool false, .nil, .nil]], true, false, true⟩ ∧ st.h 1 = ⟨39, [rS (64 + i * (m + 1)) (sumL (qs.take i))], true, false, true⟩ ∧ 1 < st.nx ∧ (i ≤ n)) (fun (i : Nat) => n - i) (0)
    ⟨(by simp [upd_app, sumL] <;> omega), (by simp [upd_app, sumL] <;> omega), (by simp [upd_app, sumL] <;> omega), (by simp [upd_app, sumL] <;> omega), (by simp [upd_app, sumL] <;> omega), (by simp [upd_app, sumL] <;> omega), (by simp [upd_app, sumL] <;> omega), (by simp <;> omega), by omega⟩ ?_
  rintro i ⟨fr, h, nx⟩ ⟨g0, g2, g3, g7, g8, hm0, hm1, hnx, hi⟩ J hJ
  simp only at g0 g2 g3 g7 g8 hm0 hm1 hnx
  by_cases hin : i < n
  · obtain ⟨q, hq⟩ := get_some (xs := qs) (i := i) (by omega)
    have hb : i * (m + 1) ≤ 1000 * 100001 := Nat.mul_le_mul (by omega) (by omega)
    have e : 64 + (i + 1) * (m + 1) = 64 + i * (m + 1) + m + 1 := by rw [Nat.add_mul]; omega
    have key := hJ (i + 1)
    rw [sumL_take hq, e] at key
    simp (disch := omega) only [go_sem, ↓k_cond, ↓x_idx, ↓k_block, Nat.reduceEqDiff, Nat.reduceBEq, ↓reduceIte, reduceCtorEq, g0, g2, g3, g7, g8, hm0, hm1, hq, hn]
    (repeat (with_reducible refine Or.inr ?_))
    exact key _ ⟨(by simp [upd_app, g0] <;> omega), (by simp [upd_app, g2] <;> omega), (by simp [upd_app, g3] <;> omega), (by simp [upd_app, g7] <;> omega), (by simp [upd_app] <;> omega), (by simp [upd_app, hm0] <;> omega), (by simp [upd_app] <;> omega), (by simp <;> omega), hin⟩ (by omega)
  · obtain rfl : i = n := by omega
    rw [List.take_of_length_le (by omega)] at hm1
    simp (disch := omega) only [go_sem, ↓k_cond, ↓x_idx, ↓k_block, Nat.reduceEqDiff, Nat.reduceBEq, ↓reduceIte, reduceCtorEq, g0, g2, g3, g7, g8, hm0, hm1, hn]
    (repeat (with_reducible refine Or.inr ?_))
    rw [← hQ]
    exact post_cell1 (id := 0) (x := rS (64 + i * (m + 1)) (sumL qs)) (.inl rfl) rfl o_sRat (by simp [upd_app, g2] <;> omega) (by simp [upd_app]) (by simp [upd_app]) ld_sRat (by simp [AV.pure, AV.pureL])
attribute [go_sem] w_sTotal
theorem w_sEqual {m n : Nat} {a b : Rat} (h : m + n ≤ 274877906944) : CW Tryz.prog 123 [rS m a, rS n b] (.bool (decide (a = b))) := by
  refine cw (by kernel_rfl) (by simp [AV.pure, AV.pureL, natA_pure, natI_pure, natS_pure]) (by simp [AV.pure, AV.pureL, natA_pure, natI_pure, natS_pure]) ?_
  refine callOk_told (x := rS m a) told_rS (by simp) (by simp [AV.pure, AV.pureL, natA_pure, natI_pure, natS_pure]) fun ha => ?_
  refine callOk_told (x := rS n b) told_rS (by simp) (by simp [AV.pure, AV.pureL, natA_pure, natI_pure, natS_pure]) fun hb => ?_
  have hp := eq_parts (a := a) (b := b)
  rw [rS_eq ha, rS_eq hb, ratS, ratS, qd, qd]
  have lx := len9 ha.1
  have ld := len9 ha.2
  have ly := len9 hb.1
  have le := len9 hb.2
  have lxe := len9 (mul_lt_pow ha.1 hb.2)
  have lyd := len9 (mul_lt_pow hb.1 ha.2)
  have m1 := w_sNatMul (a := a.num.natAbs) (b := b.den) (by omega) (by omega)
  have m2 := w_sNatMul (a := b.num.natAbs) (b := a.den) (by omega) (by omega)
  have hc := w_sCmp (a := a.num.natAbs * b.den) (b := b.num.natAbs * a.den) (by omega) (by omega)
  simp only [natS] at m1 m2 hc
  generalize decide (a.num < 0) = p at *
  generalize decide (b.num < 0) = q at *
  generalize a.num.natAbs * b.den = X at *
  generalize b.num.natAbs * a.den = Y at *
  by_cases hpq : p = q
  · subst hpq
    have e1 : (p == p) = true := by simp
    by_cases hXY : X = Y
    · subst hXY
      rw [decide_eq_true (hp.2 ⟨rfl, rfl⟩)]
      rw [cmpI_eq] at hc
      (refine callOk_of_wpc (W := fun _ => false) false hm' Tryz.func123 rfl (by kernel_rfl) (Nat.le_of_ble_eq_true rfl) (go_start ?_); generalize hQ : Post Tryz.prog Tryz.f123 _ _ _ _ _ = Q; simp only [stIn, matL, matA, st00, natS])
      simp (disch := omega) only [go_sem, ↓k_cond, ↓x_idx, ↓k_block, Nat.reduceEqDiff, Nat.reduceBEq, ↓reduceIte, reduceCtorEq, m1, m2, hc, e1]
      (repeat (with_reducible refine Or.inr ?_))
      rw [← hQ]
      exact post_one (.inl rfl) rfl (by simp [upd_app] <;> omega) rfl
    · rw [decide_eq_false (fun e => hXY (hp.1 e).2)]
      have hc0 : cmpI X Y ≠ 0 := cmpI_ne hXY
      generalize cmpI X Y = c at *
      (refine callOk_of_wpc (W := fun _ => false) false hm' Tryz.func123 rfl (by kernel_rfl) (Nat.le_of_ble_eq_true rfl) (go_start ?_); generalize hQ : Post Tryz.prog Tryz.f123 _ _ _ _ _ = Q; simp only [stIn, matL, matA, st00, natS])
      simp (disch := omega) only [go_sem, ↓k_cond, ↓x_idx, ↓k_block, Nat.reduceEqDiff, Nat.reduceBEq, ↓reduceIte, reduceCtorEq, m1, m2, hc, e1]
      (repeat (with_reducible refine Or.inr ?_))
      rw [← hQ]
      exact post_one (.inl rfl) rfl (by simp [upd_app] <;> omega) rfl
  · rw [decide_eq_false (fun e => hpq (hp.1 e).1)]
    have e1 : (p == q) = false := by cases p <;> cases q <;> simp_all
    (refine callOk_of_wpc (W := fun _ => false) false hm' Tryz.func123 rfl (by kernel_rfl) (Nat.le_of_ble_eq_true rfl) (go_start ?_); generalize hQ : Post Tryz.prog Tryz.f123 _ _ _ _ _ = Q; simp only [stIn, matL, matA, st00, natS])
    simp (disch := omega) only [go_sem, ↓k_cond, ↓x_idx, ↓k_block, Nat.reduceEqDiff, Nat.reduceBEq, ↓reduceIte, reduceCtorEq, e1]
    rw [← hQ]
    exact post_one (.inl rfl) rfl (by simp [upd_app] <;> omega) rfl
attribute [go_sem] w_sEqual
theorem w_sWeights {qs : List Rat} (hl : qs.length ≤ 300) : CW Tryz.prog 100 [lS 700 qs] (.bool (wgt qs)) := by
  refine cw (by kernel_rfl) (by simp [AV.pure, AV.pureL, natA_pure, natI_pure, natS_pure]) (by simp [AV.pure, AV.pureL, natA_pure, natI_pure, natS_pure]) ?_
  have h1 := w_sPositive (qs := qs) (by omega)
  have h2 := w_sTotal (m := 700) (qs := qs) (by omega) (by omega)
  have h3 := w_sEqual (m := 64 + qs.length * (700 + 1)) (n := 64) (a := sumL qs) (b := 1) (by omega)
  unfold wgt
  generalize (qs.all fun q => !decide (q < 0)) = p at *
  cases p
  · (refine callOk_of_wpc (W := fun _ => false) false hm' Tryz.func100 rfl (by kernel_rfl) (Nat.le_of_ble_eq_true rfl) (go_start ?_); generalize hQ : Post Tryz.prog Tryz.f100 _ _ _ _ _ = Q; simp only [stIn, matL, matA, st00])
    simp (disch := omega) only [go_sem, ↓k_cond, ↓x_idx, ↓k_block, Nat.reduceEqDiff, Nat.reduceBEq, ↓reduceIte, reduceCtorEq, h1]
    (repeat (with_reducible refine Or.inr ?_))
    rw [← hQ]
    exact post_one (.inl rfl) rfl (by simp [upd_app] <;> omega) rfl
  · rw [Bool.true_and]
    generalize decide (sumL qs = 1) = e at *
    (refine callOk_of_wpc (W := fun _ => false) false hm' Tryz.func100 rfl (by kernel_rfl) (Nat.le_of_ble_eq_true rfl) (go_start ?_); generalize hQ : Post Tryz.prog Tryz.f100 _ _ _ _ _ = Q; simp only [stIn, matL, matA, st00])
    simp (disch := omega) only [go_sem, ↓k_cond, ↓x_idx, ↓k_block, Nat.reduceEqDiff, Nat.reduceBEq, ↓reduceIte, reduceCtorEq, h1, h2, h3]
    (repeat (with_reducible refine Or.inr ?_))
    rw [← hQ]
    exact post_one (.inl rfl) rfl (by simp [upd_app] <;> omega) rfl
def gapS : Option (List Rat) → AV
 | some qs => .tup [lS 700 qs, .bool (wgt qs)]
 | none => .tup [.nil, .bool false]
attribute [go_sem] w_sWeights
theorem w_sGaps {xs : List (List UInt8)} (hl : xs.length < 9223372036854775808) (hs : ∀ x ∈ xs, x.length ≤ 1000000) : CW Tryz.prog 46 [.sl 9 (strA xs) [] false] (gapS (serR xs)) := by
 refine cw (by kernel_rfl) (by simp [AV.pure, AV.pureL, natA_pure, natI_pure, natS_pure]) (by unfold gapS; split <;> simp [AV.pure, AV.pureL]) ?_
 have h1 := w_l08Parse (xs := xs) hl hs
 cases hx : serR xs with
 | none =>
  rw [hx] at h1
  (refine callOk_of_wpc (W := fun _ => false) false hm' Tryz.func46 rfl (by kernel_rfl) (Nat.le_of_ble_eq_true rfl) (go_start ?_); generalize hQ : Post Tryz.prog Tryz.f46 _ _ _ _ _ = Q; simp only [stIn, matL, matA, st00])
  simp (disch := omega) only [go_sem, ↓k_cond, ↓x_idx, ↓k_block, Nat.reduceEqDiff, Nat.reduceBEq, ↓reduceIte, reduceCtorEq, h1]
  (repeat (with_reducible refine Or.inr ?_))
  rw [← hQ]
  exact post_two (.inl rfl) rfl (by simp [upd_app] <;> omega) (by simp [upd_app] <;> omega) rfl rfl
 | some qs =>
  rw [hx] at h1
  obtain ⟨_, _, _, h5⟩ := serR_some hx
  have h2 := w_sWeights (qs := qs) (by omega)
  rw [gapS]
  generalize wgt qs = e at *
  (refine callOk_of_wpc (W := fun _ => false) false hm' Tryz.func46 rfl (by kernel_rfl) (Nat.le_of_ble_eq_true rfl) (go_start ?_); generalize hQ : Post Tryz.prog Tryz.f46 _ _ _ _ _ = Q; simp only [stIn, matL, matA, st00])
  simp (disch := omega) only [go_sem, ↓k_cond, ↓x_idx, ↓k_block, Nat.reduceEqDiff, Nat.reduceBEq, ↓reduceIte, reduceCtorEq, h1, h2]
  (repeat (with_reducible refine Or.inr ?_))
  rw [← hQ]
  exact post_two (.inl rfl) rfl (by simp [upd_app] <;> omega) (by simp [upd_app] <;> omega) (by simp [AV.pure, AV.pureL, natA_pure, natI_pure, natS_pure]) rfl
attribute [go_sem] w_sGaps
theorem x_callT {P : Program} {W : FuncId → Bool} {ops : Array Oper} {os : List Oper} {fr : Nat → AV} {h : Nat → Blk} {nx : Nat} {K : St → Prop} {d : Option Tmp} {t tm : Nat} {p : String} {af : Array Edge} {g : FuncId} {args : Array Operand} {ts : Array TypeId}
    (hf : fr tm = .fn (.func g) [] []) (hW : W g = false) : wpos P W ops (⟨d, .call { callee := .value (.tmp tm), args := args, argTypes := ts }, t, p, af, none⟩ :: os) ⟨fr, h, nx⟩ K =
    callW P W g (args.toList.map (evA fr)) ⟨d, ops, os, fr, h, nx, K⟩ .mk := by
  simp only [wpos, wpo, guardA, opK, callW, ValCall]
  have e : St.ev ⟨fr, h, nx⟩ = evA fr := by funext x; rfl
  refine propext ⟨fun hw => ?_, fun hw => ⟨fun _ => ?_, by simp⟩⟩
  · obtain ⟨x, st', ⟨g', first, cap, h1, h2, h3, h4, h5⟩, hk⟩ := hw.1 trivial
    have h1' : AV.fn (.func g) [] [] = AV.fn (.func g') first cap := hf.symm.trans h1
    injection h1' with e1 e2 e3
    injection e1 with e1
    subst e1; subst e2; subst e3
    rw [e] at h3 h5
    exact ⟨h2, x, st', by simpa using h3, fun _ => h4 rfl, fun _ hp h nx => by simpa using h5 rfl (by simpa using hp) h nx, hk⟩
  · obtain ⟨h2, x, st', h3, h4, h5, hk⟩ := hw
    exact ⟨x, st', ⟨g, [], [], hf, h2, by rw [e]; simpa using h3, fun _ => h4 hW, fun _ hp h nx => by rw [e] at hp ⊢; simpa using h5 hW (by simpa using hp) h nx⟩, hk⟩
section
variable {P : Program} {W : WP} {f : FuncId} {fn : Func} {c : Code} {args : List AV} {x : AV} {fr : Nat → AV} {h h' : Nat → Blk} {nx : Nat} {eat : List Nat}
end
mutual
def AV.frz : AV → AV
 | .own t xs _ _ => .sl t (AV.frzL xs) [] false
 | .agg cs => .agg (AV.frzL cs)
 | .tup cs => .tup (AV.frzL cs)
 | .undef => .undef
 | .bool b => .bool b
 | .int k n => .int k n
 | .str s => .str s
 | .nil => .nil
 | .sl t xs sp ex => .sl t xs sp ex
 | .ref a b c d => .ref a b c d
 | .ptr a b c d => .ptr a b c d
 | .cptr t v j => .cptr t v j
 | .fn f a b => .fn f a b
def AV.frzL : List AV → List AV
 | [] => []
 | x :: xs => x.frz :: AV.frzL xs
end
theorem frzL_length : ∀ xs : List AV, (AV.frzL xs).length = xs.length
 | [] => rfl
 | x :: xs => by simp [AV.frzL, frzL_length xs]
mutual
theorem frz_pure : ∀ x : AV, x.pure = true → x.frz = x
 | .own .., h => by simp [AV.pure] at h
 | .agg cs, h => by simp only [AV.pure] at h; simp only [AV.frz, frzL_pure cs h]
 | .tup cs, h => by simp only [AV.pure] at h; simp only [AV.frz, frzL_pure cs h]
 | .undef, _ | .bool _, _ | .int .., _ | .str _, _ | .nil, _ | .sl .., _ | .ref .., _ | .ptr .., _ | .cptr .., _ | .fn .., _ => by simp [AV.frz]
theorem frzL_pure : ∀ xs : List AV, AV.pureL xs = true → AV.frzL xs = xs
 | [], _ => rfl
 | x :: xs, h => by
  simp only [AV.pureL, Bool.and_eq_true] at h
  simp only [AV.frzL, frz_pure x h.1, frzL_pure xs h.2]
end
theorem frz_one {x : AV} (h : x.one = true) : x.frz.one = true ∧ x.frz.cells = [x.frz] := by
 cases x <;> simp_all [AV.frz, AV.one, AV.cells]
theorem frzL_one : ∀ {cs : List AV}, cs.all AV.one = true → (AV.frzL cs).all AV.one = true
 | [], _ => rfl
 | x :: xs, h => by
  simp only [List.all_cons, Bool.and_eq_true] at h
  simp only [AV.frzL, List.all_cons, Bool.and_eq_true]
  exact ⟨(frz_one h.1).1, frzL_one h.2⟩
theorem frz_el {P : Program} {t : Nat} {x : AV} (h : x.el P t = true) : x.frz.el P t = true := by
  by_cases ha : ∃ cs, x = .agg cs
  · obtain ⟨cs, rfl⟩ := ha
    have h1 := el_len h
    have h2 : cs.all AV.one = true := List.all_eq_true.2 (el_one h)
    unfold AV.el
    rw [Bool.and_eq_true]
    simp only [AV.frz, AV.cells] at h1 ⊢
    exact ⟨decide_eq_true (by rw [frzL_length]; exact h1), frzL_one h2⟩
  · have hx : x.cells = [x] := by cases x <;> simp_all [AV.cells]
    have h1 := el_len h
    have h2 := el_one h
    rw [hx] at h1 h2
    obtain ⟨k1, k2⟩ := frz_one (h2 x (by simp))
    unfold AV.el
    rw [Bool.and_eq_true, k2]
    exact ⟨decide_eq_true (by simpa using h1), by simp [k1]⟩
theorem frzL_el {P : Program} {t : Nat} : ∀ {xs : List AV}, (∀ x ∈ xs, x.el P t = true) → ∀ x ∈ AV.frzL xs, x.el P t = true
  | [], _, x, h => by simp [AV.frzL] at h
  | y :: ys, hy, x, h => by
    simp only [AV.frzL, List.mem_cons] at h
    rcases h with rfl | h
    · exact frz_el (hy y (by simp))
    · exact frzL_el (fun z hz => hy z (by simp [hz])) x h
mutual
theorem frz_rep {P : Program} {E E' : Env} (hw : E'.w = E.w) (hI : ∀ b, E.I b → E'.I b) : ∀ (x : AV) (v : Value) (L : List OLoc), (∀ o ∈ L, E'.I o.l.b) → ownR P E x v L → x.frz.pure = true ∧ rep P E' x.frz v
  | .own t xs sp ex, v, L, hL, h => by
    simp only [ownR] at h
    obtain ⟨l, L1, L2, vs, us, c, ad, rfl, rfl, ha, _, hle, _, hel, hx, _, hb, hc, _⟩ := h
    obtain ⟨p1, p2⟩ := frzL_rep hw hI xs vs L1 (fun o ho => hL o (by simp [ho])) hx
    simp only [AV.frz]
    refine ⟨by simp [AV.pure, AV.pureL, p1], ?_⟩
    simp only [rep, frzL_length]
    refine ⟨some ad, l.cap, rfl, by simp; omega, by simp, fun x hx' => frzL_el (xs := xs) (fun y hy => hel y (List.mem_append.2 (.inl hy))) x (by simpa using hx'), vs, [], p2, by simp [repL], fun hne => ⟨l.b, l.base, c, (t, (0, 0)), ?_, hL _ (List.mem_cons_self ..), by rw [hw]; exact hb, by rw [List.append_nil]; exact cellsAt_take hc⟩⟩
    rw [ha (by simp at hne; intro h0; have : xs.length = 0 := by omega
               exact hne (List.length_eq_zero_iff.1 this))]
  | .agg cs, v, L, hL, h => by
    simp only [ownR] at h; simp only [AV.frz, AV.pure, rep]
    obtain ⟨vs, h1, h2⟩ := h
    obtain ⟨p1, p2⟩ := frzL_rep hw hI cs vs L hL h2
    exact ⟨p1, vs, h1, p2⟩
  | .tup cs, v, L, hL, h => by
    simp only [ownR] at h; simp only [AV.frz, AV.pure, rep]
    obtain ⟨vs, h1, h2⟩ := h
    obtain ⟨p1, p2⟩ := frzL_rep hw hI cs vs L hL h2
    exact ⟨p1, vs, h1, p2⟩
  | .undef, v, L, _, _ => by simp [AV.frz, AV.pure, rep]
  | .bool b, v, L, _, h => by simp only [ownR, rep] at h; simp only [AV.frz, rep]; exact ⟨rfl, h.2⟩
  | .int k n, v, L, _, h => by simp only [ownR, rep] at h; simp only [AV.frz, rep]; exact ⟨rfl, h.2⟩
  | .str s, v, L, _, h => by simp only [ownR, rep] at h; simp only [AV.frz, rep]; exact ⟨rfl, h.2⟩
  | .nil, v, L, _, h => by simp only [ownR, rep] at h; simp only [AV.frz, rep]; exact ⟨rfl, h.2⟩
  | .sl t xs sp ex, v, L, _, h => by simp only [ownR] at h; simp only [AV.frz]; exact ⟨h.2.1, rep_pure (fun b hb => ⟨hI b hb, by rw [hw]⟩) _ _ h.2.1 h.2.2⟩
  | .cptr t x j, v, L, _, h => by simp only [ownR] at h; simp only [AV.frz]; exact ⟨h.2.1, rep_pure (fun b hb => ⟨hI b hb, by rw [hw]⟩) _ _ h.2.1 h.2.2⟩
  | .fn f a b, v, L, _, h => by simp only [ownR] at h; simp only [AV.frz]; exact ⟨h.2.1, rep_pure (fun b hb => ⟨hI b hb, by rw [hw]⟩) _ _ h.2.1 h.2.2⟩
  | .ref .., v, L, _, h => by simp [ownR] at h
  | .ptr .., v, L, _, h => by simp [ownR] at h
theorem frzL_rep {P : Program} {E E' : Env} (hw : E'.w = E.w) (hI : ∀ b, E.I b → E'.I b) : ∀ (xs : List AV) (vs : List Value) (L : List OLoc), (∀ o ∈ L, E'.I o.l.b) → ownRL P E xs vs L → AV.pureL (AV.frzL xs) = true ∧ repL P E' (AV.frzL xs) vs
  | [], vs, L, _, h => by simp only [ownRL] at h; simp [AV.frzL, AV.pureL, repL, h.1]
  | x :: xs, vs, L, hL, h => by
    simp only [ownRL] at h
    obtain ⟨v, us, L1, L2, rfl, rfl, h3, h4⟩ := h
    obtain ⟨p1, p2⟩ := frz_rep hw hI x v L1 (fun o ho => hL o (by simp [ho])) h3
    obtain ⟨q1, q2⟩ := frzL_rep hw hI xs us L2 (fun o ho => hL o (by simp [ho])) h4
    simp only [AV.frzL, AV.pureL, repL]
    exact ⟨by simp [p1, q1], v, us, rfl, p2, q2⟩
end
theorem CallOk.freeze {P : Program} {f : FuncId} {args : List AV} {r : AV} {outs : List (List AV)} (h : CallOk P f args r outs) : CallOk P f args r.frz outs := by
  intro w I vs L h1 h2 h3
  refine (h w I vs L h1 h2 h3).mono ?_
  rintro e w' ⟨v, I', L', rfl, k2, k3, k4, k5, k6, k7, k8, k9⟩
  obtain ⟨I2, hI2⟩ : ∃ I2 : Nat → Prop, I2 = fun b => I' b ∨ ∃ o ∈ L', o.l.b = b := ⟨_, rfl⟩
  have hsub : ∀ b, I' b → I2 b := fun b hb => by rw [hI2]; exact .inl hb
  obtain ⟨p1, p2⟩ := frz_rep (E := bare w' I') (E' := bare w' I2) rfl hsub r v L' (fun o ho => by rw [hI2]; exact .inr ⟨o, ho, rfl⟩) k6
  refine ⟨v, I2, [], rfl, k2, fun b hb => hsub b (k3 b hb), fun b hb => ?_, fun b hb => ?_, ownR_of_pure _ _ p1 p2, by simp, by simp, ?_⟩
  · rw [hI2] at hb
    rcases hb with h | ⟨o, ho, rfl⟩
    · exact k4 b h
    · exact .inr (k8 o ho).1
  · rw [hI2] at hb
    rcases hb with h | ⟨o, ho, rfl⟩
    · exact k5 b h
    · obtain ⟨c, hc⟩ := ownR_heap r v L' k6 o ho
      exact lt_of_heap hc
  · rcases k9 with h | ⟨h, k⟩
    · exact .inl h
    · refine .inr ⟨h, fun i o ys hi hy => ?_⟩
      obtain ⟨a1, a2, a3, c, us, a4, a5, a6⟩ := k i o ys hi hy
      exact ⟨a1, a2, a3, c, us, a4, repL_pure (E := bare w' I') (E' := bare w' I2) (fun b hb => ⟨hsub b hb, rfl⟩) _ _ a2 a5, a6⟩
theorem frz_own {T : Nat} {xs sp : List AV} {ex : Bool} (hp : AV.pureL xs = true) : (AV.own T xs sp ex).frz = .sl T xs [] false := by simp only [AV.frz, frzL_pure xs hp]
theorem CallOk.freeze1 {P : Program} {f : FuncId} {args : List AV} {T : Nat} {xs sp : List AV} {ex : Bool} (h : CallOk P f args (.own T xs sp ex) []) (hp : AV.pureL xs = true) : CallOk P f args (.sl T xs [] false) [] := by
 have := h.freeze; rwa [frz_own hp] at this
theorem c_l08Times {m n M : Nat} {x y : List Rat} (hM : M ≤ 10000000) (hm : m ≤ 10000000) (hn : n ≤ 10000000) (hM0 : 0 < M) (hl : x.length ≤ 1000) (hl2 : y.length ≤ 1000) (h1 : 1 ≤ x.length) (hp : ∀ k i, k < x.length → i ≤ k + 1 → fits M (pcv x y k i)) : CallOk Tryz.prog 49 [lS m x, lS n y] (.own 39 (ratM M (timL x y)) [] false) [] := by
  obtain ⟨L, hL⟩ : ∃ n, x.length = n := ⟨_, rfl⟩
  obtain ⟨Ly, hLy⟩ : ∃ n, y.length = n := ⟨_, rfl⟩
  rw [timL]
  rw [hL] at hl h1 hp ⊢
  rw [hLy] at hl2
  (refine callOk_of_wpc (W := fun _ => false) true hm' Tryz.func49 rfl (by kernel_rfl) (Nat.le_of_ble_eq_true rfl) (go_start ?_); generalize hQ : Post Tryz.prog Tryz.f49 _ _ _ _ _ = Q; simp only [stIn, matL, matA, st00])
  simp (disch := omega) only [go_sem, ↓k_cond, ↓x_idx, ↓k_block, Nat.reduceEqDiff, Nat.reduceBEq, ↓reduceIte, reduceCtorEq, hL]
  refine k_loop (fun (k : Nat) st => st.fr 0 = lS m x ∧ st.fr 1 = lS n y ∧ st.fr 5 = .ref 0 k 0 k ∧ st.fr 6 = .int .i64 k ∧ st.h 0 = ⟨39, ratM M (mapF k (timF x y)), (k == 0), true, true⟩ ∧ 0 < st.nx ∧ (k ≤ L)) (fun (k : Nat) => L - k) (0)
    ⟨(by simp [upd_app, ratM, mapF] <;> omega), (by simp [upd_app, ratM, mapF] <;> omega), (by simp [upd_app, ratM, mapF] <;> omega), (by simp [upd_app, ratM, mapF] <;> omega), (by simp [upd_app, ratM, mapF] <;> omega), (by simp <;> omega), by omega⟩ ?_
  rintro k ⟨fr, h, nx⟩ ⟨g0, g1, g5, g6, hm0, hnx, hk⟩ J hJ
  simp only at g0 g1 g5 g6 hm0 hnx
  have n1 : (0 = nx) = False := by simp; omega
  have n2 : (nx = 0) = False := by simp; omega
  by_cases hin : k < L
  · have hel : (ratM M (mapF k (timF x y))).length = k := by rw [ratM_length, mapF_len]
    have hz1 : (k + 1 == 0) = false := by simp
    have h0 : rS 64 0 = rS M (pcv x y k 0) := rS_re (zero_fits _ (by decide)) (hp k 0 hin (by omega))
    have hsn : ratM M (mapF k (timF x y)) ++ [rS M (pcv x y k (k + 1))] = ratM M (mapF (k + 1) (timF x y)) := by rw [mapF_succ, ratM_snoc]; rfl
    have keyJ := hJ (k + 1)
    clear hJ
    simp (disch := omega) only [go_sem, ↓k_cond, ↓x_idx, ↓k_block, Nat.reduceEqDiff, Nat.reduceBEq, ↓reduceIte, reduceCtorEq, g0, g1, g5, g6, hL]
    (repeat (with_reducible refine Or.inr ?_))
    refine k_loop (fun (i : Nat) st => st.fr 0 = lS m x ∧ st.fr 1 = lS n y ∧ st.fr 5 = .ref 0 k 0 k ∧ st.fr 6 = .int .i64 k ∧ st.fr 7 = .ptr nx 1 0 0 ∧ st.fr 8 = .int .i64 i ∧ st.h 0 = ⟨39, ratM M (mapF k (timF x y)), (k == 0), true, true⟩ ∧ st.h nx = ⟨39, [rS M (pcv x y k i)], true, false, true⟩ ∧ nx < st.nx ∧ i ≤ k + 1) (fun i => k + 1 - i) 0
      ⟨(by simp [upd_app, g0] <;> omega), (by simp [upd_app, g1] <;> omega), (by simp [upd_app, g5] <;> omega), (by simp [upd_app, g6] <;> omega), (by simp [upd_app] <;> omega), (by simp [upd_app] <;> omega), by simp only [upd_app, ↓reduceIte, n1, hm0], by simp only [upd_app, ↓reduceIte, h0], by simp, by omega⟩ ?_
    rintro i ⟨fr2, h2, nx2⟩ ⟨r0, r1, r5, r6, r7, r8, m0, mx, hx2, hi⟩ J2 hJ2
    simp only at r0 r1 r5 r6 r7 r8 m0 mx hx2
    by_cases hin2 : i ≤ k
    · obtain ⟨p, hpx⟩ := get_some (xs := x) (i := i) (by omega)
      by_cases hc : k - i < Ly
      · obtain ⟨q, hq⟩ := get_some (xs := y) (i := k - i) (by omega)
        have hqk : ((k : Int) - (i : Int)).toNat = k - i := by omega
        have hst := pcv_step hin2 hpx hq
        have hre : rS (M + (m + n) + 1) (pcv x y k i + p * q) = rS M (pcv x y k (i + 1)) := by
          rw [← hst]; exact rS_re (fits_mono (hp k (i + 1) hin (by omega)) (by omega)) (hp k (i + 1) hin (by omega))
        simp (disch := omega) only [go_sem, ↓k_cond, ↓x_idx, ↓k_block, Nat.reduceEqDiff, Nat.reduceBEq, ↓reduceIte, reduceCtorEq, r0, r1, r5, r6, r7, r8, m0, mx, hpx, hq, hqk, hL, hLy, hre]
        (repeat (with_reducible refine Or.inr ?_))
        exact hJ2 (i + 1) _ ⟨(by simp [upd_app, r0] <;> omega), (by simp [upd_app, r1] <;> omega), (by simp [upd_app, r5] <;> omega), (by simp [upd_app, r6] <;> omega), (by simp [upd_app, r7] <;> omega), (by simp [upd_app] <;> omega), by simp only [upd_app, ↓reduceIte, n1, m0], by simp only [upd_app, ↓reduceIte], hx2, by omega⟩ (by first | omega | (simp only; omega))
      · have hst : pcv x y k (i + 1) = pcv x y k i := pcv_skip (by omega)
        simp (disch := omega) only [go_sem, ↓k_cond, ↓x_idx, ↓k_block, Nat.reduceEqDiff, Nat.reduceBEq, ↓reduceIte, reduceCtorEq, r0, r1, r5, r6, r7, r8, m0, mx, hpx, hL, hLy]
        exact hJ2 (i + 1) _ ⟨(by simp [upd_app, r0] <;> omega), (by simp [upd_app, r1] <;> omega), (by simp [upd_app, r5] <;> omega), (by simp [upd_app, r6] <;> omega), (by simp [upd_app, r7] <;> omega), (by simp [upd_app] <;> omega), by simp only [upd_app, ↓reduceIte, n1, m0], by simp only [upd_app, ↓reduceIte, mx, hst], hx2, by omega⟩ (by first | omega | (simp only; omega))
    · obtain rfl : i = k + 1 := by omega
      simp (disch := omega) only [go_sem, ↓k_cond, ↓x_idx, ↓k_block, Nat.reduceEqDiff, Nat.reduceBEq, ↓reduceIte, reduceCtorEq, r0, r1, r5, r6, r7, r8, m0, mx, hel, reach]
      (repeat (with_reducible refine Or.inr ?_))
      exact keyJ _ ⟨(by simp [upd_app, r0] <;> omega), (by simp [upd_app, r1] <;> omega), (by simp [upd_app] <;> omega), (by simp [upd_app] <;> omega), by simp only [upd_app, ↓reduceIte, hsn, hz1], by simp only; omega, hin⟩ (by omega)
  · obtain rfl : k = L := by omega
    have hz : (k == 0) = false := by simp; omega
    rw [hz] at hm0
    simp (disch := omega) only [go_sem, ↓k_cond, ↓x_idx, ↓k_block, Nat.reduceEqDiff, Nat.reduceBEq, ↓reduceIte, reduceCtorEq, g0, g1, g5, g6, hL]
    rw [← hQ]
    exact post_own (id := 0) (n := k) (len := k) (.inl rfl) rfl (by simp [upd_app] <;> omega) (by simp [hm0]) (by simp [hm0, ratM_length, mapF_len]) (by simp [hm0]) (by simp [hm0]) (Nat.le_refl _) (by simp only [hm0]; exact List.take_of_length_le (by rw [ratM_length, mapF_len]; exact Nat.le_refl _)) (by simp [hm0]) (by simp [hm0]) (by simp) rfl
theorem w_l08Times {m n M : Nat} {x y : List Rat} (hM : M ≤ 10000000) (hm : m ≤ 10000000) (hn : n ≤ 10000000) (hM0 : 0 < M) (hl : x.length ≤ 1000) (hl2 : y.length ≤ 1000) (h1 : 1 ≤ x.length) (hp : ∀ k i, k < x.length → i ≤ k + 1 → fits M (pcv x y k i)) : CW Tryz.prog 49 [lS m x, lS n y] (lS M (timL x y)) :=
 cw (by kernel_rfl) (by simp [AV.pure, AV.pureL, natA_pure, natI_pure, natS_pure]) (by simp [AV.pure, AV.pureL, natA_pure, natI_pure, natS_pure]) ((c_l08Times hM hm hn hM0 hl hl2 h1 hp).freeze1 (by simp))
attribute [go_sem] w_l08Times
theorem c_l06Row {n : Nat} (hn : n ≤ 1000) (h1 : 1 ≤ n) : CallOk Tryz.prog 56 [.int .i64 n] (.own 39 (ratM 64 (List.replicate n 0)) [] false) [] := by
  (refine callOk_of_wpc (W := fun _ => false) true hm' Tryz.func56 rfl (by kernel_rfl) (Nat.le_of_ble_eq_true rfl) (go_start ?_); generalize hQ : Post Tryz.prog Tryz.f56 _ _ _ _ _ = Q; simp only [stIn, matL, matA, st00])
  simp (disch := omega) only [go_sem, ↓k_cond, ↓x_idx, ↓k_block, Nat.reduceEqDiff, Nat.reduceBEq, ↓reduceIte, reduceCtorEq]
  refine k_loop (fun (k : Nat) st => st.fr 0 = .int .i64 n ∧ st.fr 3 = .ref 0 k 0 k ∧ st.fr 4 = .int .i64 k ∧ st.h 0 = ⟨39, ratM 64 (List.replicate k 0), (k == 0), true, true⟩ ∧ 0 < st.nx ∧ (k ≤ n)) (fun (k : Nat) => n - k) (0)
    ⟨(by simp [upd_app, ratM] <;> omega), (by simp [upd_app, ratM] <;> omega), (by simp [upd_app, ratM] <;> omega), (by simp [upd_app, ratM] <;> omega), (by simp <;> omega), by omega⟩ ?_
  rintro k ⟨fr, h, nx⟩ ⟨g0, g3, g4, hm0, hnx, hk⟩ J hJ
  simp only at g0 g3 g4 hm0 hnx
  by_cases hin : k < n
  · have hel : (ratM 64 (List.replicate k 0)).length = k := by rw [ratM_length, List.length_replicate]
    have hz1 : (k + 1 == 0) = false := by simp
    have hsn : ratM 64 (List.replicate k 0) ++ [rS 64 0] = ratM 64 (List.replicate (k + 1) 0) := by rw [ratM_snoc, ← List.replicate_succ']
    simp (disch := omega) only [go_sem, ↓k_cond, ↓x_idx, ↓k_block, Nat.reduceEqDiff, Nat.reduceBEq, ↓reduceIte, reduceCtorEq, g0, g3, g4, hm0, hel, reach]
    (repeat (with_reducible refine Or.inr ?_))
    exact hJ (k + 1) _ ⟨(by simp [upd_app, g0] <;> omega), (by simp [upd_app] <;> omega), (by simp [upd_app] <;> omega), by simp only [upd_app, ↓reduceIte, hsn, hz1], by simp only; omega, hin⟩ (by omega)
  · obtain rfl : k = n := by omega
    have hz : (k == 0) = false := by simp; omega
    rw [hz] at hm0
    simp (disch := omega) only [go_sem, ↓k_cond, ↓x_idx, ↓k_block, Nat.reduceEqDiff, Nat.reduceBEq, ↓reduceIte, reduceCtorEq, g0, g3, g4]
    rw [← hQ]
    exact post_own (id := 0) (n := k) (len := k) (.inl rfl) rfl (by simp [upd_app] <;> omega) (by simp [hm0]) (by simp [hm0, ratM_length]) (by simp [hm0]) (by simp [hm0]) (Nat.le_refl _) (by simp only [hm0]; exact List.take_of_length_le (by rw [ratM_length, List.length_replicate]; exact Nat.le_refl _)) (by simp [hm0]) (by simp [hm0]) (by simp) rfl
theorem oneL_set {n : Nat} (h : 1 ≤ n) : (List.replicate n (0 : Rat)).set 0 1 = oneL n := by
  apply List.ext_getElem
  · simp [oneL, mapF]
  · intro i h1 h2
    simp only [oneL, mapF, List.getElem_set, List.getElem_replicate, List.getElem_map, List.getElem_range, oneF]
    by_cases e : i = 0
    · subst e; simp
    · rw [if_neg (fun h => e h.symm), if_neg e]
theorem w_l08One {n : Nat} (hn : n ≤ 1000) (h1 : 1 ≤ n) : CW Tryz.prog 48 [.int .i64 n] (lS 64 (oneL n)) := by
 refine cw (by kernel_rfl) (by simp [AV.pure, AV.pureL, natA_pure, natI_pure, natS_pure]) (by simp [AV.pure, AV.pureL, natA_pure, natI_pure, natS_pure]) ?_
 have hset : (ratM 64 (List.replicate n 0)).set 0 (rS 64 1) = ratM 64 (oneL n) := by rw [ratM_put, oneL_set h1]
 have hel : (ratM 64 (List.replicate n 0)).length = n := by rw [ratM_length, List.length_replicate]
 (refine callOk_of_wpc (W := fun g => g == 56) false hm' Tryz.func48 rfl (by kernel_rfl) (Nat.le_of_ble_eq_true rfl) (go_start ?_); generalize hQ : Post Tryz.prog Tryz.f48 _ _ _ _ _ = Q; simp only [stIn, matL, matA, st00])
 simp (disch := omega) only [go_sem, ↓k_cond, ↓x_idx, ↓k_block, Nat.reduceEqDiff, Nat.reduceBEq, ↓reduceIte, reduceCtorEq]
 refine callW_O (c_l06Row (n := n) hn h1) (by kernel_rfl) (by simp [AV.pure, AV.pureL, natA_pure, natI_pure, natS_pure]) ratM_pure rfl rfl ?_
 simp only [List.length_nil, Nat.add_zero, List.append_nil, ratM_length, List.length_replicate]
 have hg : (List.replicate n (0 : Rat))[Int.toNat 0]? = some 0 := by
  rw [List.getElem?_replicate, if_pos (show Int.toNat 0 < n from h1)]
 have hset2 : (ratM 64 (List.replicate n 0)).set (Int.toNat 0) (rS 64 1) = ratM 64 (oneL n) := hset
 simp (disch := omega) only [go_sem, ↓k_cond, ↓x_idx, ↓k_block, Nat.reduceEqDiff, Nat.reduceBEq, ↓reduceIte, reduceCtorEq, hel, hg, hset2]
 (repeat (with_reducible refine Or.inr ?_))
 rw [← hQ]
 exact post_frozen (id := 0) (n := n) (off := 0) (len := n) (.inl rfl) rfl (by simp [upd_app] <;> omega) (by simp [upd_app]) (by simp [upd_app, ratM_length, oneL, mapF_len]) (by simp [upd_app]) (by omega) (Nat.zero_le _) (by simp only [upd_app, if_true, List.append_nil, hset, List.drop_zero]; exact List.take_of_length_le (by rw [ratM_length, oneL, mapF_len]; exact Nat.le_refl _)) (by simp [AV.pure, AV.pureL, natA_pure, natI_pure, natS_pure])
attribute [go_sem] w_l08One
theorem bpow_ok {x : List Rat} {n : Nat} (hx : ∀ q ∈ x, fits 700 q) (h1 : 1 ≤ n) (hn : n ≤ 13) : (∀ m, m ≤ 20 → ∀ q ∈ bpow x n m, fits bigP q) ∧ ∀ m k i, m < 20 → k < n → i ≤ k + 1 → fits bigP (pcv (bpow x n m) x k i) := by
  have hf := fitL_fits (n := n) hx
  refine ⟨fun m hm q hq => ?_, fun m k i hm hk hi => ?_⟩
  · rw [bpow_eq] at hq
    exact (pow_fits hf (by rw [fitL_len]; omega) (by rw [fitL_len]; omega) hm).1 q hq
  · rw [bpow_eq, pcv_congr (z := fitL x n) (fun j hj => (fitL_getD (by omega)).symm)]
    exact (pow_fits hf (by rw [fitL_len]; omega) (by rw [fitL_len]; omega) (show m ≤ 20 by omega)).2 k i (by omega) hm
theorem s_BusyTerm {xs : List (List UInt8)} {n : Int} (hl : xs.length < 9223372036854775808) (hs : ∀ x ∈ xs, x.length ≤ 1000000) : CallOk Tryz.prog 18 [.sl 9 (strA xs) [] false, .int .i64 n] (optT (busT xs n)) [] := by
  have h1 := w_sGaps (xs := xs) hl hs
  have h2 := w_sIn (n := n) (a := 1) (b := 12)
  unfold busT wgtR
  cases hq : serR xs with
  | none =>
    rw [hq, gapS] at h1
    show CallOk Tryz.prog _ _ (optT none) []
    (refine callOk_of_wpc (W := fun _ => false) false hm' Tryz.func18 rfl (by kernel_rfl) (Nat.le_of_ble_eq_true rfl) (go_start ?_); generalize hQ : Post Tryz.prog Tryz.f18 _ _ _ _ _ = Q; simp only [stIn, matL, matA, st00])
    simp (disch := omega) only [go_sem, ↓k_cond, ↓x_idx, ↓k_block, Nat.reduceEqDiff, Nat.reduceBEq, ↓reduceIte, reduceCtorEq, h1]
    (repeat (with_reducible refine Or.inr ?_))
    rw [← hQ]
    exact post_two (.inl rfl) rfl (by simp [upd_app] <;> omega) (by simp [upd_app] <;> omega) rfl rfl
  | some x =>
    rw [hq, gapS] at h1
    obtain ⟨hxf, _, h4, h5⟩ := serR_some hq
    by_cases hw : wgt x = true
    · simp only [if_pos hw]
      rw [hw] at h1
      by_cases c : 1 ≤ n ∧ n ≤ 12
      · obtain ⟨k, rfl⟩ : ∃ k : Nat, n = k := ⟨n.toNat, by omega⟩
        rw [decide_eq_true c] at h2
        simp only [if_pos c, Int.toNat_natCast]
        have hB : bigP = 262144 := rfl
        have hone := w_l08One (n := k) (by omega) (by omega)
        obtain ⟨p1, p2⟩ := bpow_ok (n := k) hxf (by omega) (by omega)
        have ht := fun j (hj : j < 20) => w_l08Times (m := bigP) (n := 700) (M := bigP) (x := bpow x k j) (y := x) (by omega) (by omega) (by omega) (by omega) (by rw [bpow_len]; omega) (by omega) (by rw [bpow_len]; omega) (fun a i ha hi => p2 j a i hj (by rw [bpow_len] at ha; exact ha) hi)
        have h0 : lS 64 (oneL k) = lS bigP (bpow x k 0) := by
          have : ratM 64 (bpow x k 0) = ratM bigP (bpow x k 0) := List.map_congr_left fun q hq => rS_re (cd_fits (oneL_cd q hq) (by decide) (by decide) (by decide)) (p1 0 (by omega) q hq)
          rw [lS, lS, ← this, bpow]
        obtain ⟨q, hqq⟩ := get_some (xs := bpow x k k) (i := k - 1) (by rw [bpow_len]; omega)
        have hqk : ((k : Int) - 1).toNat = k - 1 := by omega
        have hkn : (((k : Int) : Rat)).num ≠ 0 := by simp; omega
        have hbus : q / ((k : Int) : Rat) = busF x k := by rw [busF, ← bpow_eq, getD_of hqq]
        have hov := w_sOver (m := bigP) (n := 64) (a := q) (b := ((k : Int) : Rat)) (by omega) hkn
        rw [hbus] at hov
        have hgv := w_sGive2 (m := bigP + 64) (q := busF x k) (by omega)
        cases htt : toldR (busF x k)
        all_goals
          rw [htt] at hgv
          (refine callOk_of_wpc (W := fun _ => false) false hm' Tryz.func18 rfl (by kernel_rfl) (Nat.le_of_ble_eq_true rfl) (go_start ?_); generalize hQ : Post Tryz.prog Tryz.f18 _ _ _ _ _ = Q; simp only [stIn, matL, matA, st00])
          simp (disch := omega) only [go_sem, ↓k_cond, ↓x_idx, ↓k_block, Nat.reduceEqDiff, Nat.reduceBEq, ↓reduceIte, reduceCtorEq, h1, h2, hone]
          (repeat (with_reducible refine Or.inr ?_))
          refine k_loop (fun (j : Nat) st => st.fr 1 = .int .i64 k ∧ st.fr 6 = lS 700 x ∧ st.fr 8 = lS bigP (bpow x k j) ∧ st.fr 9 = .int .i64 j ∧ j ≤ k) (fun j => k - j) 0 ⟨(by simp [upd_app] <;> omega), (by simp [upd_app] <;> omega), by rw [← h0]; simp [upd_app], (by simp [upd_app] <;> omega), by omega⟩ ?_
          rintro j ⟨fr, h, nx⟩ ⟨g1, g6, g8, g9, hj⟩ J hJ
          simp only at g1 g6 g8 g9
          by_cases hin : j < k
          · have htk := ht j (by omega)
            have hpow : timL (bpow x k j) x = bpow x k (j + 1) := rfl
            rw [hpow] at htk
            simp (disch := omega) only [go_sem, ↓k_cond, ↓x_idx, ↓k_block, Nat.reduceEqDiff, Nat.reduceBEq, ↓reduceIte, reduceCtorEq, g1, g6, g8, g9, htk]
            (repeat (with_reducible refine Or.inr ?_))
            exact hJ (j + 1) _ ⟨(by simp [upd_app, g1] <;> omega), (by simp [upd_app, g6] <;> omega), (by simp [upd_app] <;> omega), (by simp [upd_app] <;> omega), hin⟩ (by omega)
          · obtain rfl : j = k := by omega
            have hel : (ratM bigP (bpow x j j)).length = j := by rw [ratM_length, bpow_len]
            simp (disch := omega) only [go_sem, ↓k_cond, ↓x_idx, ↓k_block, Nat.reduceEqDiff, Nat.reduceBEq, ↓reduceIte, reduceCtorEq, g1, g6, g8, g9, hel, hqq, hqk, hov, hgv]
            (repeat (with_reducible refine Or.inr ?_))
            rw [← hQ]
            exact post_two (.inl rfl) rfl (by simp [upd_app] <;> omega) (by simp [upd_app] <;> omega) rfl rfl
      · rw [decide_eq_false c] at h2
        simp only [if_neg c]
        show CallOk Tryz.prog _ _ (optT none) []
        (refine callOk_of_wpc (W := fun _ => false) false hm' Tryz.func18 rfl (by kernel_rfl) (Nat.le_of_ble_eq_true rfl) (go_start ?_); generalize hQ : Post Tryz.prog Tryz.f18 _ _ _ _ _ = Q; simp only [stIn, matL, matA, st00])
        simp (disch := omega) only [go_sem, ↓k_cond, ↓x_idx, ↓k_block, Nat.reduceEqDiff, Nat.reduceBEq, ↓reduceIte, reduceCtorEq, h1, h2]
        (repeat (with_reducible refine Or.inr ?_))
        rw [← hQ]
        exact post_two (.inl rfl) rfl (by simp [upd_app] <;> omega) (by simp [upd_app] <;> omega) rfl rfl
    · simp only [if_neg hw]
      simp only [Bool.not_eq_true] at hw
      rw [hw] at h1
      show CallOk Tryz.prog _ _ (optT none) []
      (refine callOk_of_wpc (W := fun _ => false) false hm' Tryz.func18 rfl (by kernel_rfl) (Nat.le_of_ble_eq_true rfl) (go_start ?_); generalize hQ : Post Tryz.prog Tryz.f18 _ _ _ _ _ = Q; simp only [stIn, matL, matA, st00])
      simp (disch := omega) only [go_sem, ↓k_cond, ↓x_idx, ↓k_block, Nat.reduceEqDiff, Nat.reduceBEq, ↓reduceIte, reduceCtorEq, h1]
      (repeat (with_reducible refine Or.inr ?_))
      rw [← hQ]
      exact post_two (.inl rfl) rfl (by simp [upd_app] <;> omega) (by simp [upd_app] <;> omega) rfl rfl
section
open Go.Shelf
def lays283_ren : Go.Shelf.Ren := ⟨fun | 283 => 176 | n => n, fun | 3 => 3 | 9 => 9 | 4 => 4 | n => n, fun | n => n⟩
theorem lays283 : Go.Proofs.Lays.n283 Tryz.prog lays283_ren := {
 mixed := by kernel_rfl
 f283 := Tryz.func176.trans (congrArg some (by kernel_rfl))
 t3 := Tryz.underlying3
 a3 := Tryz.isAgg3
 z3 := Tryz.sizeOf3
 v3 := Tryz.zeroValue3
 t4 := Tryz.underlying4
 a4 := Tryz.isAgg4
 z4 := Tryz.sizeOf4
 v4 := Tryz.zeroValue4
 t9 := Tryz.underlying9
 a9 := Tryz.isAgg9
 z9 := Tryz.sizeOf9
 v9 := Tryz.zeroValue9 }
def lays284_ren : Go.Shelf.Ren := ⟨fun | 284 => 177 | 129 => 184 | 317 => 183 | 318 => 185 | n => n, fun | 53 => 93 | 3 => 3 | 212 => 187 | 0 => 0 | 4 => 4 | 46 => 118 | 5 => 5 | 9 => 9 | n => n, fun | 17 => 3 | n => n⟩
theorem lays284 : Go.Proofs.LaysM.n284 Tryz.prog lays284_ren := {
 mixed := by kernel_rfl
 f129 := Tryz.func184.trans (congrArg some (by kernel_rfl))
 f284 := Tryz.func177.trans (congrArg some (by kernel_rfl))
 f317 := Tryz.func183.trans (congrArg some (by kernel_rfl))
 f318 := Tryz.func185.trans (congrArg some (by kernel_rfl))
 t0 := Tryz.underlying0
 a0 := Tryz.isAgg0
 z0 := Tryz.sizeOf0
 v0 := Tryz.zeroValue0
 t3 := Tryz.underlying3
 a3 := Tryz.isAgg3
 z3 := Tryz.sizeOf3
 v3 := Tryz.zeroValue3
 t4 := Tryz.underlying4
 a4 := Tryz.isAgg4
 z4 := Tryz.sizeOf4
 v4 := Tryz.zeroValue4
 t5 := Tryz.underlying5
 a5 := Tryz.isAgg5
 z5 := Tryz.sizeOf5
 v5 := Tryz.zeroValue5
 t9 := Tryz.underlying9
 a9 := Tryz.isAgg9
 z9 := Tryz.sizeOf9
 v9 := Tryz.zeroValue9
 t46 := Tryz.underlying118
 a46 := Tryz.isAgg118
 z46 := Tryz.sizeOf118
 v46 := Tryz.zeroValue118
 t53 := Tryz.underlying93
 a53 := Tryz.isAgg93
 z53 := Tryz.sizeOf93
 v53 := Tryz.zeroValue93
 t212 := Tryz.underlying187
 a212 := Tryz.isAgg187
 z212 := Tryz.sizeOf187
 v212 := Tryz.zeroValue187
 g17 := by kernel_rfl
 i0 := by kernel_rfl
 i3 := by kernel_rfl
 i4 := by kernel_rfl
 i5 := by kernel_rfl
 i9 := by kernel_rfl
 i46 := by kernel_rfl
 i53 := by kernel_rfl
 i212 := by kernel_rfl
 m17 := by kernel_rfl }
def lays285_ren : Go.Shelf.Ren := ⟨fun | 285 => 178 | n => n, fun | 37 => 100 | 53 => 93 | 3 => 3 | 4 => 4 | 51 => 117 | 9 => 9 | 5 => 5 | 0 => 0 | n => n, fun | n => n⟩
theorem lays285 : Go.Proofs.Lays.n285 Tryz.prog lays285_ren := {
 mixed := by kernel_rfl
 f285 := Tryz.func178.trans (congrArg some (by kernel_rfl))
 t0 := Tryz.underlying0
 a0 := Tryz.isAgg0
 z0 := Tryz.sizeOf0
 v0 := Tryz.zeroValue0
 t3 := Tryz.underlying3
 a3 := Tryz.isAgg3
 z3 := Tryz.sizeOf3
 v3 := Tryz.zeroValue3
 t4 := Tryz.underlying4
 a4 := Tryz.isAgg4
 z4 := Tryz.sizeOf4
 v4 := Tryz.zeroValue4
 t5 := Tryz.underlying5
 a5 := Tryz.isAgg5
 z5 := Tryz.sizeOf5
 v5 := Tryz.zeroValue5
 t9 := Tryz.underlying9
 a9 := Tryz.isAgg9
 z9 := Tryz.sizeOf9
 v9 := Tryz.zeroValue9
 t37 := Tryz.underlying100
 a37 := Tryz.isAgg100
 z37 := Tryz.sizeOf100
 v37 := Tryz.zeroValue100
 t51 := Tryz.underlying117
 a51 := Tryz.isAgg117
 z51 := Tryz.sizeOf117
 v51 := Tryz.zeroValue117
 t53 := Tryz.underlying93
 a53 := Tryz.isAgg93
 z53 := Tryz.sizeOf93
 v53 := Tryz.zeroValue93 }
def lays156_ren : Go.Shelf.Ren := ⟨fun | 156 => 148 | 165 => 167 | 166 => 168 | 169 => 170 | 240 => 180 | 241 => 181 | 276 => 188 | 277 => 189 | n => n, fun | 31 => 22 | 9 => 9 | 3 => 3 | 4 => 4 | 0 => 0 | 20 => 20 | 72 => 168 | 76 => 170 | 70 => 166 | 37 => 100 | 75 => 114 | 127 => 182 | 164 => 191 | 5 => 5 | 80 => 124 | n => n, fun | n => n⟩
theorem lays156 : Go.Proofs.Lays.n156 Tryz.prog lays156_ren := {
 mixed := by kernel_rfl
 f156 := Tryz.func148.trans (congrArg some (by kernel_rfl))
 f165 := Tryz.func167.trans (congrArg some (by kernel_rfl))
 f166 := Tryz.func168.trans (congrArg some (by kernel_rfl))
 f169 := Tryz.func170.trans (congrArg some (by kernel_rfl))
 f240 := Tryz.func180.trans (congrArg some (by kernel_rfl))
 f241 := Tryz.func181.trans (congrArg some (by kernel_rfl))
 f276 := Tryz.func188.trans (congrArg some (by kernel_rfl))
 f277 := Tryz.func189.trans (congrArg some (by kernel_rfl))
 t0 := Tryz.underlying0
 a0 := Tryz.isAgg0
 z0 := Tryz.sizeOf0
 v0 := Tryz.zeroValue0
 t3 := Tryz.underlying3
 a3 := Tryz.isAgg3
 z3 := Tryz.sizeOf3
 v3 := Tryz.zeroValue3
 t4 := Tryz.underlying4
 a4 := Tryz.isAgg4
 z4 := Tryz.sizeOf4
 v4 := Tryz.zeroValue4
 t9 := Tryz.underlying9
 a9 := Tryz.isAgg9
 z9 := Tryz.sizeOf9
 v9 := Tryz.zeroValue9
 t20 := Tryz.underlying20
 a20 := Tryz.isAgg20
 z20 := Tryz.sizeOf20
 v20 := Tryz.zeroValue20
 t31 := Tryz.underlying22
 a31 := Tryz.isAgg22
 z31 := Tryz.sizeOf22
 v31 := Tryz.zeroValue22
 t37 := Tryz.underlying100
 a37 := Tryz.isAgg100
 z37 := Tryz.sizeOf100
 v37 := Tryz.zeroValue100
 t70 := Tryz.underlying166
 a70 := Tryz.isAgg166
 z70 := Tryz.sizeOf166
 v70 := Tryz.zeroValue166
 t72 := Tryz.underlying168
 a72 := Tryz.isAgg168
 z72 := Tryz.sizeOf168
 v72 := Tryz.zeroValue168
 t75 := Tryz.underlying114
 a75 := Tryz.isAgg114
 z75 := Tryz.sizeOf114
 v75 := Tryz.zeroValue114
 t76 := Tryz.underlying170
 a76 := Tryz.isAgg170
 z76 := Tryz.sizeOf170
 v76 := Tryz.zeroValue170
 t127 := Tryz.underlying182
 a127 := Tryz.isAgg182
 z127 := Tryz.sizeOf182
 v127 := Tryz.zeroValue182
 t164 := Tryz.underlying191
 a164 := Tryz.isAgg191
 z164 := Tryz.sizeOf191
 v164 := Tryz.zeroValue191 }
def lays105_ren : Go.Shelf.Ren := ⟨fun | 105 => 146 | 212 => 129 | 99 => 166 | 165 => 167 | 166 => 168 | 170 => 169 | 169 => 170 | 263 => 151 | 264 => 152 | 206 => 138 | 240 => 180 | 241 => 181 | 276 => 188 | 277 => 189 | n => n, fun | 9 => 9 | 3 => 3 | 4 => 4 | 20 => 20 | 0 => 0 | 46 => 118 | 109 => 130 | 5 => 5 | 72 => 168 | 76 => 170 | 51 => 117 | 146 => 155 | 53 => 93 | 148 => 157 | 70 => 166 | 37 => 100 | 75 => 114 | 127 => 182 | 164 => 191 | 80 => 124 | n => n, fun | n => n⟩
theorem lays105 : Go.Proofs.Lays.n105 Tryz.prog lays105_ren := {
 mixed := by kernel_rfl
 f99 := Tryz.func166.trans (congrArg some (by kernel_rfl))
 f105 := Tryz.func146.trans (congrArg some (by kernel_rfl))
 f165 := Tryz.func167.trans (congrArg some (by kernel_rfl))
 f166 := Tryz.func168.trans (congrArg some (by kernel_rfl))
 f169 := Tryz.func170.trans (congrArg some (by kernel_rfl))
 f170 := Tryz.func169.trans (congrArg some (by kernel_rfl))
 f206 := Tryz.func138.trans (congrArg some (by kernel_rfl))
 f212 := Tryz.func129.trans (congrArg some (by kernel_rfl))
 f240 := Tryz.func180.trans (congrArg some (by kernel_rfl))
 f241 := Tryz.func181.trans (congrArg some (by kernel_rfl))
 f263 := Tryz.func151.trans (congrArg some (by kernel_rfl))
 f264 := Tryz.func152.trans (congrArg some (by kernel_rfl))
 f276 := Tryz.func188.trans (congrArg some (by kernel_rfl))
 f277 := Tryz.func189.trans (congrArg some (by kernel_rfl))
 t0 := Tryz.underlying0
 a0 := Tryz.isAgg0
 z0 := Tryz.sizeOf0
 v0 := Tryz.zeroValue0
 t3 := Tryz.underlying3
 a3 := Tryz.isAgg3
 z3 := Tryz.sizeOf3
 v3 := Tryz.zeroValue3
 t4 := Tryz.underlying4
 a4 := Tryz.isAgg4
 z4 := Tryz.sizeOf4
 v4 := Tryz.zeroValue4
 t5 := Tryz.underlying5
 a5 := Tryz.isAgg5
 z5 := Tryz.sizeOf5
 v5 := Tryz.zeroValue5
 t9 := Tryz.underlying9
 a9 := Tryz.isAgg9
 z9 := Tryz.sizeOf9
 v9 := Tryz.zeroValue9
 t20 := Tryz.underlying20
 a20 := Tryz.isAgg20
 z20 := Tryz.sizeOf20
 v20 := Tryz.zeroValue20
 t37 := Tryz.underlying100
 a37 := Tryz.isAgg100
 z37 := Tryz.sizeOf100
 v37 := Tryz.zeroValue100
 t46 := Tryz.underlying118
 a46 := Tryz.isAgg118
 z46 := Tryz.sizeOf118
 v46 := Tryz.zeroValue118
 t51 := Tryz.underlying117
 a51 := Tryz.isAgg117
 z51 := Tryz.sizeOf117
 v51 := Tryz.zeroValue117
 t53 := Tryz.underlying93
 a53 := Tryz.isAgg93
 z53 := Tryz.sizeOf93
 v53 := Tryz.zeroValue93
 t70 := Tryz.underlying166
 a70 := Tryz.isAgg166
 z70 := Tryz.sizeOf166
 v70 := Tryz.zeroValue166
 t72 := Tryz.underlying168
 a72 := Tryz.isAgg168
 z72 := Tryz.sizeOf168
 v72 := Tryz.zeroValue168
 t75 := Tryz.underlying114
 a75 := Tryz.isAgg114
 z75 := Tryz.sizeOf114
 v75 := Tryz.zeroValue114
 t76 := Tryz.underlying170
 a76 := Tryz.isAgg170
 z76 := Tryz.sizeOf170
 v76 := Tryz.zeroValue170
 t109 := Tryz.underlying130
 a109 := Tryz.isAgg130
 z109 := Tryz.sizeOf130
 v109 := Tryz.zeroValue130
 t127 := Tryz.underlying182
 a127 := Tryz.isAgg182
 z127 := Tryz.sizeOf182
 v127 := Tryz.zeroValue182
 t146 := Tryz.underlying155
 a146 := Tryz.isAgg155
 z146 := Tryz.sizeOf155
 v146 := Tryz.zeroValue155
 t148 := Tryz.underlying157
 a148 := Tryz.isAgg157
 z148 := Tryz.sizeOf157
 v148 := Tryz.zeroValue157
 t164 := Tryz.underlying191
 a164 := Tryz.isAgg191
 z164 := Tryz.sizeOf191
 v164 := Tryz.zeroValue191 }
theorem extra156 : Go.Proofs.Builder.Extra Tryz.prog lays156_ren := { sizeBuilder := by kernel_rfl, liesBuilder := by kernel_rfl, t5 := Tryz.underlying5, a5 := Tryz.isAgg5, z5 := Tryz.sizeOf5, v5 := Tryz.zeroValue5, infoByte := by kernel_rfl, cellsByte := by kernel_rfl, sizeByte := by kernel_rfl, neB5 := by decide }
theorem extra105 : Go.Proofs.Builder.Extra Tryz.prog lays105_ren := { sizeBuilder := by kernel_rfl, liesBuilder := by kernel_rfl, t5 := Tryz.underlying5, a5 := Tryz.isAgg5, z5 := Tryz.sizeOf5, v5 := Tryz.zeroValue5, infoByte := by kernel_rfl, cellsByte := by kernel_rfl, sizeByte := by kernel_rfl, neB5 := by decide }
end
section
open Go Go.RowKit Go.Sort
theorem callOk_of_belowT {P : Program} {f : FuncId} {args : List AV} {vals : List Value} {r : AV} {v : Value} {g : Nat} (hg : P.globalNamed tabName = some g) (ha : ∀ E vs L, ownRL P E args vs L → vs = vals ∧ L = []) (hr : ∀ E, ownR P E r v [])
  (h : ∀ w : World, Lib.TabIs P w tabName .u64 tabNums → Calls P f vals.toArray w fun e w' => e = .returned v ∧ Below w.heap.size w w') : CallOk P f args r [] := by
 intro w I vs L hI hown hnd
 obtain ⟨rfl, rfl⟩ := ha _ _ _ hown
 refine (h w (hI.tab g hg).2).mono ?_
 rintro e w' ⟨rfl, hb⟩
 refine ⟨v, I, [], rfl, ⟨hb.os, hb.tape, hb.output, hb.size, fun b hb' _ => hb.block b hb', by simp⟩, fun b hb' => hb', fun b hb' => .inl hb', fun b hb' => Nat.lt_of_lt_of_le (hI.lt b hb') hb.size, hr _, by simp, by simp, .inl rfl⟩
theorem tab_kit {P : Program} {w : World} (h : Lib.TabIs P w tabName .u64 tabNums) : Lib.TabIs P w "internal/strconv.uint64pow10" .u64 Lib.pow10Tab := h
set_option maxHeartbeats 2000000 in
set_option maxRecDepth 100000 in
theorem w_FormatUint0 (u : Nat) (hu : u < 18446744073709551616) (w : World) (htab : Lib.TabIs Tryz.prog w "internal/strconv.uint64pow10" .u64 Lib.pow10Tab) :
    Calls Tryz.prog 165 #[.int .u64 u, .int .i64 10] w fun e w' => e = .returned (.string ⟨(Lib.decDigits u).toArray⟩) ∧ Below w.heap.size w w' := by
  by_cases hs : u < 100
  · go_enter Tryz.func165, Tryz.ntmps165
    go_wp2_with (go_at_call 176; refine (Any.internal_strconv_small lays283 u hs _).mono ?_; rintro e w' ⟨rfl, rfl⟩)
    go_ret
    exact ⟨rfl, Below.refl _ _⟩
  · have hu1 : 1 ≤ u := by omega
    have hnd20 : Lib.nDigits u ≤ 20 := by have := Lib.numDigits_eq u hu1 hu; split at this <;> omega
    have hb3 : Lib.nDigits u ≤ 24 := by omega
    have hal : Program.arrayLen Tryz.prog 177 = 24 := by kernel_rfl
    have hsl1 : ∀ W, (Instr.sliceAt 177 (.pointer (some ⟨w.heap.size, 0, none⟩)) none (some (.int .i64 (Lib.nDigits u : Int))) none).run Tryz.prog W = .ok (.slice (some ⟨w.heap.size, 0, none⟩) (Lib.nDigits u) 24) W := fun W => by
      rw [run_sliceAt_array_h W 177 ⟨w.heap.size, 0, none⟩ (by kernel_rfl) .i64 (Lib.nDigits u : Int) (by omega) (by rw [hal]; omega)]
      have he : Program.elem Tryz.prog 177 = 5 := by kernel_rfl
      simp [hal, he, Tryz.sizeOf5, slicedAt, Lib.add_plain]
    have hH0 : Sort.Holds (fun (b : UInt8) => Value.int .u8 (b.toNat : Int)) (w.alloc (.cells Lib.zeros24 177)) w.heap.size 0 (Array.replicate (Lib.nDigits u) (0 : UInt8)) := fun j hj => by
      have hj' : j < Lib.nDigits u := by simpa using hj
      refine ⟨?_, World.frozen?_alloc_new _ _ _ _⟩
      rw [World.cell?_alloc_new, Lib.zeros24_at _ (by omega), getElem!_pos _ j hj]
      simp
    have hfmt := Any.internal_strconv_formatBase10 lays285 w.heap.size 0 24 u (Array.replicate (Lib.nDigits u) 0) (w.alloc (.cells Lib.zeros24 177)) hH0 (by rw [Array.size_replicate]; exact Lib.lt_pow_nDigits u) hu (by rw [Array.size_replicate]; omega)
    rw [Array.size_replicate] at hfmt
    have HH0 := Lib.hid hH0
    clear hH0 hal
    go_enter Tryz.func165, Tryz.ntmps165
    go_wp2_with (first
      | (go_at_call 177; refine (Any.internal_strconv_numDigits lays284 u hu1 hu _ (Lib.tabIs_alloc htab _)).mono ?_; rintro e w' ⟨rfl, rfl⟩))
    go_at_call 178
    refine hfmt.mono ?_
    rintro e w' ⟨rfl, k, v', dk, rfl, hF⟩
    have hcv : (convert 100 9 (.slice (some ⟨w.heap.size, 0, none⟩) (Lib.nDigits u) 24)).run Tryz.prog ((putRow (fun (b : UInt8) => Value.int .u8 (b.toNat : Int)) (w.alloc (.cells Lib.zeros24 177)) w.heap.size 0 dk).drewN k) = .ok (.string ⟨(Lib.decDigits u).toArray⟩) ((putRow (fun (b : UInt8) => Value.int .u8 (b.toNat : Int)) (w.alloc (.cells Lib.zeros24 177)) w.heap.size 0 dk).drewN k) := by
      have h := run_convert_bytes_back (P := Tryz.prog) ((putRow (fun (b : UInt8) => Value.int .u8 (b.toNat : Int)) (w.alloc (.cells Lib.zeros24 177)) w.heap.size 0 dk).drewN k) 100 9 5 ⟨w.heap.size, 0, none⟩ 24 (Lib.decDigits u) Tryz.underlying100 Tryz.underlying5 Tryz.underlying9 (fun j hj => by
        rw [Lib.row_is_numeral hF j hj, Lib.add_plain, World.cell?_drewN]
        exact cell?_putRow (fun (b : UInt8) => Value.int .u8 (b.toNat : Int)) _ w.heap.size 0 _ dk HH0.out (by rw [hF.size, Array.size_replicate]) j (by rw [hF.size]; rw [Lib.decDigits_length] at hj; exact hj))
      rw [Lib.decDigits_length] at h
      exact h
    go_wp2
    go_ret
    refine ⟨rfl, ?_⟩
    rw [alloc_eq_grow]
    obtain ⟨os', _, e⟩ := putRow_grow_new (fun (b : UInt8) => Value.int .u8 (b.toNat : Int)) w #[.cells Lib.zeros24 177] w.heap.size 0 dk (Nat.le_refl _)
    rw [e]
    exact ⟨rfl, rfl, rfl, by simp [grow, World.drewN], fun b hb => by simp [grow, World.drewN, Array.getElem?_append_left hb]⟩
set_option maxRecDepth 100000 in
theorem w_FormatUint (u : Nat) (hu : u < 18446744073709551616) (w : World) (htab : Lib.TabIs Tryz.prog w "internal/strconv.uint64pow10" .u64 Lib.pow10Tab) :
  Calls Tryz.prog 145 #[.int .u64 u, .int .i64 10] w fun e w' => e = .returned (.string ⟨(Lib.decDigits u).toArray⟩) ∧ Below w.heap.size w w' := by
 go_enter Tryz.func145, Tryz.ntmps145
 go_wp2_with (go_at_call 165; refine (w_FormatUint0 u hu _ htab).mono ?_; rintro e w' ⟨rfl, hb⟩)
 go_ret
 exact ⟨rfl, hb⟩
theorem g_FormatUint {u : Nat} (hu : u < 18446744073709551616) : CW Tryz.prog 145 [.int .u64 u, .int .i64 10] (.str (Lib.decDigits u)) :=
 cw (by kernel_rfl) (by simp [AV.pure, AV.pureL, natA_pure, natI_pure, natS_pure]) (by simp [AV.pure, AV.pureL, natA_pure, natI_pure, natS_pure]) (callOk_of_belowT (g := 3) (vals := [.int .u64 u, .int .i64 10]) (v := .string ⟨(Lib.decDigits u).toArray⟩) (by kernel_rfl) (fun E => ownL_cons (fun _ _ => own_int) (ownL_cons (fun _ _ => own_int) ownL_nil)) (fun E => by simp [ownR, rep]) fun w ht => w_FormatUint u hu w (tab_kit ht))
theorem repeat_48 : ∀ c, Lib.repeatL [48] c = List.replicate c 48
 | 0 => rfl
 | c + 1 => by rw [Lib.repeatL, repeat_48 c]; rfl
attribute [go_sem] g_FormatUint
theorem g_Repeat {c : Nat} (hc : c ≤ 100) : CW Tryz.prog 146 [.str [48], .int .i64 c] (.str (List.replicate c 48)) :=
 cw (by kernel_rfl) (by simp [AV.pure, AV.pureL, natA_pure, natI_pure, natS_pure]) (by simp [AV.pure, AV.pureL, natA_pure, natI_pure, natS_pure]) (callOk_of_below (vals := [.string ⟨[48].toArray⟩, .int .i64 c]) (v := .string ⟨(List.replicate c 48).toArray⟩) (fun E => ownL_cons (fun _ _ => own_str) (ownL_cons (fun _ _ => own_int) ownL_nil)) (fun E => by simp [ownR, rep]) fun w => by
  refine (Any.strings_Repeat lays105 extra105 ⟨[48].toArray⟩ c w (by omega) (by simp [ByteArray.size]; omega)).mono ?_
  rintro e w' ⟨rfl, hb⟩
  refine ⟨?_, hb⟩
  simp [repeat_48])
theorem join_flat : ∀ xs : List (List UInt8), Lib.join xs [] = xs.flatten
 | [] => rfl
 | x :: r => by rw [Lib.join_cons]; simp [Lib.joinTail]
theorem repL_strs {P : Program} {E : Env} : ∀ {xs : List (List UInt8)} {vs : List Value}, repL P E (strA xs) vs → vs = xs.map fun s => .string ⟨s.toArray⟩
 | [], vs, h => by simpa [strA, repL] using h
 | x :: xs, vs, h => by
  simp only [strA, List.map_cons, repL] at h
  obtain ⟨v, us, rfl, h1, h2⟩ := h
  rw [rep_str h1, repL_strs (xs := xs) h2]; rfl
theorem g_Join {xs : List (List UInt8)} {ex : Bool} (h0 : xs ≠ []) (hl : xs.length ≤ 140737488355328) (hs : xs.flatten.length ≤ 140737488355328) : CallOk Tryz.prog 148 [.sl 9 (strA xs) [] ex, .str []] (.str xs.flatten) [] := by
  intro w I vs L hI hown hnd
  simp only [ownRL] at hown
  obtain ⟨v, us, L1, L2, rfl, rfl, h1, u, us', L3, L4, rfl, rfl, h3, rfl, rfl⟩ := hown
  obtain ⟨rfl, rfl⟩ := own_str h3
  simp only [ownR, rep] at h1
  obtain ⟨rfl, _, a, cap, rfl, h5, _, _, ws, us, h6, _, h7⟩ := h1
  have hlen : (strA xs).length = xs.length := strA_length xs
  have hpos : 0 < xs.length := List.length_pos_iff.2 h0
  obtain ⟨b, off, c, fz, rfl, hIb, hb, hca⟩ := h7 (by rw [hlen]; simp; omega)
  have hw := repL_strs h6
  subst hw
  have hcell : ∀ (j : Nat) (x : ByteArray), (xs.map fun s => (⟨s.toArray⟩ : ByteArray))[j]? = some x → w.cell? ⟨b, off + j, none⟩ = some (.string x) := by
    intro j x hj
    simp only [List.getElem?_map, Option.map_eq_some_iff] at hj
    obtain ⟨s, hs', rfl⟩ := hj
    have hb' : w.heap[b]? = some (.cells c fz.1 fz.2) := hb
    have hjl : j < xs.length := by
      rcases Nat.lt_or_ge j xs.length with h | h
      · exact h
      · rw [List.getElem?_eq_none h] at hs'; cases hs'
    rw [cell_at hb']
    have hj2 := (hca j (.string ⟨s.toArray⟩) (by rw [List.getElem?_append_left (by simpa using hjl)]; simp [hs'])).2 0 (.string ⟨s.toArray⟩) (by simp [Value.cells])
    have hz : szT Tryz.prog 9 = 1 := by kernel_rfl
    rw [hz] at hj2
    simpa using hj2
  have := Any.strings_Join lays156 extra156 b off cap (xs.map fun s => (⟨s.toArray⟩ : ByteArray)) ⟨#[]⟩ w hcell (hI.lt b hIb) (by simpa using hl) (by rw [strA_length] at h5; simpa using h5) (by
    simp only [List.map_map, Function.comp_def, List.map_id']
    rw [join_flat]; exact hs)
  simp only [List.map_map, Function.comp_def, List.map_id', join_flat, List.length_map] at this
  rw [hlen]
  refine this.mono ?_
  rintro e w' ⟨rfl, hb⟩
  exact ⟨_, I, [], rfl, ⟨hb.os, hb.tape, hb.output, hb.size, fun b hb' _ => hb.block b hb', by simp⟩, fun b hb' => hb', fun b hb' => .inl hb', fun b hb' => Nat.lt_of_lt_of_le (hI.lt b hb') hb.size, by simp [ownR, rep], by simp, by simp, .inl rfl⟩
attribute [go_sem] g_Repeat
end
theorem rev_at {xs : List (List UInt8)} {k : Nat} (h : k < xs.length) : xs.reverse[k]? = xs[xs.length - 1 - k]? := List.getElem?_reverse h
theorem rev_done {xs zs : List (List UInt8)} {i : Nat} (hl : zs.length = xs.length) (hi : xs.length ≤ 2 * i + 1) (hz : ∀ k, zs[k]? = if k < i ∨ xs.length ≤ k + i then xs.reverse[k]? else xs[k]?) : zs = xs.reverse := by
  refine List.ext_getElem? fun k => ?_
  rw [hz k]
  split
  · rfl
  · rename_i h
    rw [rev_at (by omega)]
    congr 1; omega
theorem rev_step {xs zs : List (List UInt8)} {i : Nat} {a b : List UInt8} (hl : zs.length = xs.length) (hi : 2 * i + 1 < xs.length) (ha : zs[i]? = some a) (hb : zs[xs.length - 1 - i]? = some b)
    (hz : ∀ k, zs[k]? = if k < i ∨ xs.length ≤ k + i then xs.reverse[k]? else xs[k]?) (k : Nat) :
    ((zs.set i b).set (xs.length - 1 - i) a)[k]? = if k < i + 1 ∨ xs.length ≤ k + (i + 1) then xs.reverse[k]? else xs[k]? := by
  have h1 := hz i
  have h2 := hz (xs.length - 1 - i)
  rw [if_neg (by omega), ha] at h1
  rw [if_neg (by omega), hb] at h2
  rw [List.getElem?_set, List.getElem?_set]
  by_cases e1 : xs.length - 1 - i = k
  · subst e1
    rw [if_pos rfl, if_pos (by simp; omega), if_pos (by omega), rev_at (by omega), show xs.length - 1 - (xs.length - 1 - i) = i by omega]
    exact h1
  · rw [if_neg e1]
    by_cases e2 : i = k
    · subst e2
      rw [if_pos rfl, if_pos (by omega), if_pos (by omega), rev_at (by omega)]
      exact h2
    · rw [if_neg e2, hz k]
      by_cases hc : k < i ∨ xs.length ≤ k + i
      · rw [if_pos hc, if_pos (by omega)]
      · rw [if_neg hc, if_neg (by omega)]
theorem i_Reverse {fr : Nat → AV} {h : Nat → Blk} {nx id n : Nat} {xs : List (List UInt8)} {ex gr : Bool} (hb : h id = ⟨9, strA xs, ex, gr, true⟩) (hn : xs.length = n) (h0 : 0 < n) (hbig : n ≤ 1099511627776) :
    InOk Tryz.prog ⟨fr, h, nx⟩ 147 [.ref id n 0 n] (.tup []) ⟨fr, upd h id ⟨9, strA xs.reverse, ex, gr, true⟩, nx⟩ := by
  refine inOk_of_wpc (W := fun _ => false) hm' Tryz.func147 rfl (by kernel_rfl) (Nat.le_of_ble_eq_true rfl) (go_start ?_)
  generalize hQ : PostIn Tryz.prog Tryz.f147 _ _ _ = Q
  have hal : (strA xs).length = n := by rw [strA_length, hn]
  simp (disch := omega) only [go_sem, ↓k_cond, ↓x_idx, ↓k_block, Nat.reduceEqDiff, Nat.reduceBEq, ↓reduceIte, reduceCtorEq, hb, hal]
  refine k_loop (fun (p : Nat × List (List UInt8)) st => st.fr 0 = .ref id n 0 n ∧ st.fr 2 = .int .i64 p.1 ∧ st.fr 3 = .int .i64 ((n : Int) - 1 - p.1) ∧ st.h = upd h id ⟨9, strA p.2, ex, gr, true⟩ ∧ st.nx = nx ∧
      p.2.length = n ∧ 2 * p.1 ≤ n + 1 ∧ ∀ k, p.2[k]? = if k < p.1 ∨ n ≤ k + p.1 then xs.reverse[k]? else xs[k]?) (fun p => n - p.1) (0, xs)
    ⟨(by simp [upd_app] <;> omega), (by simp [upd_app] <;> omega), (by simp [upd_app] <;> omega), by funext j; simp only [upd_app]; split <;> simp_all, rfl, hn, by omega, fun k => by
      split
      · rename_i hk
        rw [List.getElem?_eq_none (by first | omega | (simp; omega)), List.getElem?_eq_none (by first | omega | (simp; omega))]
      · rfl⟩ ?_
  rintro ⟨i, zs⟩ ⟨fr1, h1, nx1⟩ ⟨g0, g2, g3, eh, enx, hzl, hi, hz⟩ J hJ
  simp only at g0 g2 g3 eh enx hzl hi hz
  subst eh enx
  have hal2 : (strA zs).length = n := by rw [strA_length, hzl]
  by_cases hin : 2 * i + 1 < n
  · obtain ⟨a, ha⟩ := get_some (xs := zs) (i := i) (by omega)
    obtain ⟨b, hbb⟩ := get_some (xs := zs) (i := n - 1 - i) (by omega)
    have e1 : ((n : Int) - 1 - (i : Int)).toNat = n - 1 - i := by omega
    have hupd : ∀ z w : Blk, upd (upd h id z) id w = upd h id w := by intro z w; funext j; simp only [upd_app]; split <;> rfl
    have hlt : ∀ z, (strA (zs.set i z)).length = n := fun z => by rw [strA_length, List.length_set, hzl]
    have hzi := rev_step (xs := xs) (zs := zs) (i := i) (a := a) (b := b) (by omega) (by omega) ha (by rw [hn]; exact hbb) (by rw [hn]; exact hz)
    rw [hn] at hzi
    have hne : i ≠ n - 1 - i := by omega
    have hset : ∀ z, (zs.set i z)[n - 1 - i]? = zs[n - 1 - i]? := fun z => by rw [List.getElem?_set, if_neg hne]
    simp (disch := omega) only [go_sem, ↓k_cond, ↓x_idx, ↓k_block, Nat.reduceEqDiff, Nat.reduceBEq, ↓reduceIte, reduceCtorEq, g0, g2, g3, hal2, strA_at, ha, hbb, e1, hupd, hlt, hset, strA_put]
    exact hJ (i + 1, (zs.set i b).set (n - 1 - i) a) _ ⟨(by simp [upd_app, g0] <;> omega), (by simp [upd_app] <;> omega), by simp [upd_app]; omega, rfl, rfl, by simp [hzl], by omega, hzi⟩ (by simp only; omega)
  · have hfin := rev_done (xs := xs) (zs := zs) (i := i) (by omega) (by omega) (by rw [hn]; exact hz)
    simp (disch := omega) only [go_sem, ↓k_cond, ↓x_idx, ↓k_block, Nat.reduceEqDiff, Nat.reduceBEq, ↓reduceIte, reduceCtorEq, g0, g2, g3]
    rw [← hQ]
    exact postIn_none (.inr rfl) rfl (by rw [hfin]) rfl
theorem snap_all {st : St} {id n : Nat} {xs : List (List UInt8)} {ex gr : Bool} (h : st.h id = ⟨9, strA xs, ex, gr, true⟩) (hn : xs.length = n) : snapL (snapA st 8) [.ref id n 0 n, .str []] = some ([.sl 9 (strA xs) [] false, .str []], [id]) := by
 have h1 := snap_strs (st := st) (id := id) (n := n) (len := n) (xs := xs) h hn (Nat.le_refl _)
 rw [List.take_of_length_le (by omega)] at h1
 have h2 : snapA st 8 (.str []) = some (.str [], []) := snapA_pure rfl
 simp [snapL, h1, h2]
theorem w_divSmall {a d : Nat} (ha : (enc B32 a).length ≤ 1099511627776) (hd : 0 < d) (hd2 : d < 4294967296) : CW Tryz.prog 141 [natI a, .int .u32 d] (.tup [natI (a / d), .int .u32 ((a % d : Nat) : Int)]) :=
 cw (by kernel_rfl) (by simp [AV.pure, AV.pureL, natA_pure, natI_pure, natS_pure]) (by simp [AV.pure, AV.pureL, natA_pure, natI_pure, natS_pure]) (i_divSmall a d ha hd hd2)
theorem chunk_bound {n k : Nat} (h : (enc B32 n).length ≤ k) : (chunkD n).length ≤ 2 * k := by
 have h1 : n < B32 ^ k := Nat.lt_of_lt_of_le (enc_len_pow B32_gt) (Nat.pow_le_pow_right (by decide) h)
 have h2 : B32 ≤ 1000000000 ^ 2 := by decide
 have h3 := Nat.pow_le_pow_left h2 k
 rw [← Nat.pow_mul] at h3
 exact chunkD_len (Nat.lt_of_lt_of_le h1 h3)
attribute [go_sem] w_divSmall
set_option maxHeartbeats 1000000 in
theorem w_natText {n : Nat} (hn : (enc B32 n).length ≤ 274877906944) : CW Tryz.prog 121 [natI n] (.str (Lib.decDigits n)) := by
  refine cw (by kernel_rfl) (by simp [AV.pure, AV.pureL, natA_pure, natI_pure, natS_pure]) (by simp [AV.pure, AV.pureL, natA_pure, natI_pure, natS_pure]) ?_
  by_cases hz : n = 0
  · subst hz
    rw [decD_zero]
    (refine callOk_of_wpc (W := fun _ => false) false hm' Tryz.func121 rfl (by kernel_rfl) (Nat.le_of_ble_eq_true rfl) (go_start ?_); generalize hQ : Post Tryz.prog Tryz.f121 _ _ _ _ _ = Q; simp only [stIn, matL, matA, st00, natI])
    simp (disch := omega) only [go_sem, ↓k_cond, ↓x_idx, ↓k_block, Nat.reduceEqDiff, Nat.reduceBEq, ↓reduceIte, reduceCtorEq, enc_zero, natA_nil, List.length_nil]
    rw [← hQ]
    exact post_one (.inl rfl) rfl (by simp [upd_app] <;> omega) rfl
  have hpos := enc_len_pos B32_gt hz
  have hcl := chunk_bound hn
  have hct := chunkD_text n hz
  have hdl : (Lib.decDigits n).length ≤ 140737488355328 := by
    rw [← hct]
    have : ∀ cs : List (List UInt8), (∀ c ∈ cs, c.length ≤ 9) → cs.flatten.length ≤ 9 * cs.length := by
      intro cs
      induction cs with
      | nil => intro _; simp
      | cons c cs ih =>
        intro h
        have h1 := h c (by simp)
        have h2 := ih (fun d hd => h d (by simp [hd]))
        simp only [List.flatten_cons, List.length_append, List.length_cons]; omega
    have h3 := this (chunkD n).reverse (fun c hc => (chunkD_nine c (by simpa using hc)).1)
    simp only [List.length_reverse] at h3
    omega
  have hcn : chunkD n ≠ [] := by rw [chunkD_pos hz]; simp
  (refine callOk_of_wpc (W := fun g => g == 147) false hm' Tryz.func121 rfl (by kernel_rfl) (Nat.le_of_ble_eq_true rfl) (go_start ?_); generalize hQ : Post Tryz.prog Tryz.f121 _ _ _ _ _ = Q; simp only [stIn, matL, matA, st00, natI])
  simp (disch := omega) only [go_sem, ↓k_cond, ↓x_idx, ↓k_block, Nat.reduceEqDiff, Nat.reduceBEq, ↓reduceIte, reduceCtorEq]
  refine k_loop (fun (⟨m, ps⟩ : Nat × List (List UInt8)) st => st.fr 0 = natI m ∧ st.fr 3 = .ref 0 ps.length 0 ps.length ∧ (∃ ex, st.h 0 = ⟨9, strA ps, ex, true, true⟩) ∧ 0 < st.nx ∧ (ps ++ chunkD m = chunkD n) ∧ (m ≤ n)) (fun (⟨m, ps⟩ : Nat × List (List UInt8)) => m) (n, [])
    ⟨(by simp [upd_app, natI, strA] <;> omega), (by simp [upd_app, natI, strA] <;> omega), ⟨true, (by simp [upd_app, natI, strA] <;> omega)⟩, (by simp <;> omega), by simp, by omega⟩ ?_
  rintro ⟨m, ps⟩ ⟨fr, h, nx⟩ ⟨g0, g3, ⟨ex0, hm0⟩, hnx, hps, hmn⟩ J hJ
  simp only at g0 g3 hm0 hnx
  have hlm := enc_len_mono B32_gt hmn
  have hpl : ps.length ≤ (chunkD n).length := by rw [← hps]; simp
  by_cases hmz : m = 0
  · subst hmz
    rw [chunkD_zero, List.append_nil] at hps
    have hne : ps ≠ [] := by rw [hps]; exact hcn
    have hp0 := List.length_pos_iff.2 hne
    rw [natI0] at g0
    simp (disch := omega) only [go_sem, ↓k_cond, ↓x_idx, ↓k_block, Nat.reduceEqDiff, Nat.reduceBEq, ↓reduceIte, reduceCtorEq, g0, g3]
    refine callW_I (i_Reverse (ex := ex0) (gr := true) (id := 0) (xs := ps) hm0 rfl hp0 (by omega)) (by kernel_rfl) (.inl rfl) ?_
    simp (disch := omega) only [go_sem, ↓k_cond, ↓x_idx, ↓k_block, Nat.reduceEqDiff, Nat.reduceBEq, ↓reduceIte, reduceCtorEq, g3]
    refine callW_S (g_Join (xs := ps.reverse) (ex := false) (by simpa using hne) (by simp; omega) (by rw [hps, hct]; exact hdl)) (by kernel_rfl) (snap_all (ex := ex0) (gr := true) (by simp [upd_app] <;> omega) (by simp)) rfl rfl ?_
    rw [hps, hct]
    simp (disch := omega) only [go_sem, ↓k_cond, ↓x_idx, ↓k_block, Nat.reduceEqDiff, Nat.reduceBEq, ↓reduceIte, reduceCtorEq]
    rw [← hQ]
    exact post_one (.inl rfl) rfl (by simp [upd_app] <;> omega) rfl
  · have hmp := enc_len_pos B32_gt hmz
    have hd : CW Tryz.prog 141 [natI m, .int .u32 1000000000] (.tup [natI (m / 1000000000), .int .u32 ((m % 1000000000 : Nat) : Int)]) := w_divSmall (a := m) (d := 1000000000) (by omega) (by decide) (by decide)
    obtain ⟨r, hr⟩ : ∃ r, m % 1000000000 = r := ⟨_, rfl⟩
    obtain ⟨q, hq⟩ : ∃ q, m / 1000000000 = q := ⟨_, rfl⟩
    have hrl : r < 1000000000 := by rw [← hr]; exact Nat.mod_lt _ (by decide)
    have hc := chunkD_pos hmz
    rw [hq, hr] at hd hc
    have hf := g_FormatUint (u := r) (by omega)
    have hl9 := decD_len (k := 9) (r := r) (by simpa using hrl) (by decide)
    have hpd := padD_eq 9 r (by simpa using hrl) (by decide)
    simp only [natI] at g0 hd
    by_cases hq0 : q = 0
    · subst hq0
      rw [if_pos rfl] at hc
      have hmr : m = r := by omega
      rw [enc_zero, natA_nil] at hd
      simp (disch := omega) only [go_sem, ↓k_cond, ↓x_idx, ↓k_block, Nat.reduceEqDiff, Nat.reduceBEq, ↓reduceIte, reduceCtorEq, g0, g3, hm0, hd, hf, strA_length, reach]
      (repeat (with_reducible refine Or.inr ?_))
      exact hJ (0, ps ++ [Lib.decDigits r]) _ ⟨(by simp [upd_app, natI, enc_zero, natA_nil] <;> omega), by simp [upd_app], ⟨false, by simp [upd_app, strA]⟩, (by simp <;> omega), by rw [← hps, hc, hmr]; simp, by omega⟩ (by simp only; omega)
    · rw [if_neg hq0] at hc
      have hql := enc_len_pos B32_gt hq0
      obtain ⟨l, hl⟩ : ∃ l, (Lib.decDigits r).length = l := ⟨_, rfl⟩
      have e9 : (9 : Int) - (l : Int) = ((9 - l : Nat) : Int) := by omega
      have hrp := g_Repeat (c := 9 - l) (by omega)
      rw [hl] at hl9 hpd
      have hpl2 : (padD 9 r).length = 9 := padD_len 9 r
      simp (disch := omega) only [go_sem, ↓k_cond, ↓x_idx, ↓k_block, Nat.reduceEqDiff, Nat.reduceBEq, ↓reduceIte, reduceCtorEq, g0, g3, hm0, hd, hf, hrp, strA_length, e9, hl, List.length_replicate, reach]
      (repeat (with_reducible refine Or.inr ?_))
      rw [← hpd]
      exact hJ (q, ps ++ [padD 9 r]) _ ⟨(by simp [upd_app, natI] <;> omega), by simp [upd_app], ⟨false, by simp [upd_app, strA]⟩, (by simp <;> omega), by rw [← hps, hc]; simp, by omega⟩ (by simp only; omega)
attribute [go_sem] w_natText
theorem beq49 {s : List UInt8} (h : s ≠ [49]) : (s == [49]) = false := by simpa using h
theorem w_ratText {m : Nat} {q : Rat} (h : m ≤ 274877906944) : CW Tryz.prog 98 [rI m q] (.tup [.str (numS q), .bool (okR q)]) := by
  refine cw (by kernel_rfl) (by simp [AV.pure, AV.pureL, natA_pure, natI_pure, natS_pure]) (by simp [AV.pure, AV.pureL, natA_pure, natI_pure, natS_pure]) ?_
  refine callOk_told (x := rI m q) told_rI (by simp) (by simp [AV.pure, AV.pureL, natA_pure, natI_pure, natS_pure]) fun ha => ?_
  obtain ⟨l1, l2⟩ := numS_len ha
  have h1 := w_natText (n := q.num.natAbs) (by have := len32 ha.1; omega)
  have h2 := w_natText (n := q.den) (by have := len32 ha.2; omega)
  rw [rI_eq ha, ratI, qd, numS, okR]
  simp only [natI] at h1 h2
  have hd : Lib.decDigits q.den = [49] → q.den = 1 := decD_is_one
  by_cases c2 : q.den = 1
  · rw [c2, decD_one] at h2
    simp only [c2, if_true, decD_one]
    generalize Lib.decDigits q.num.natAbs = s1 at *
    have hbb : (([49] : List UInt8) == [49]) = true := rfl
    by_cases c1 : q.num < 0 <;> by_cases k1 : s1.length ≤ 200
    all_goals
      simp only [c1, decide_true, decide_false, if_true, if_false]
      (refine callOk_of_wpc (W := fun _ => false) false hm' Tryz.func98 rfl (by kernel_rfl) (Nat.le_of_ble_eq_true rfl) (go_start ?_); generalize hQ : Post Tryz.prog Tryz.f98 _ _ _ _ _ = Q; simp only [stIn, matL, matA, st00, natI])
      simp (disch := omega) only [go_sem, ↓k_cond, ↓x_idx, ↓k_block, Nat.reduceEqDiff, Nat.reduceBEq, ↓reduceIte, reduceCtorEq, h1, h2, hbb, List.length_append, List.length_cons, List.length_nil]
      (repeat (with_reducible refine Or.inr ?_))
      rw [← hQ]
      exact post_two (.inl rfl) rfl (by simp [upd_app]) (by simp [upd_app, k1]) rfl rfl
  · have hne : (Lib.decDigits q.den == [49]) = false := beq49 fun h => c2 (hd h)
    clear hd
    simp only [c2, if_false]
    generalize Lib.decDigits q.num.natAbs = s1 at *
    generalize Lib.decDigits q.den = s2 at *
    by_cases c1 : q.num < 0 <;> by_cases k1 : s1.length ≤ 200 <;> by_cases k2 : s2.length ≤ 200
    all_goals
      simp only [c1, decide_true, decide_false, if_true, if_false]
      (refine callOk_of_wpc (W := fun _ => false) false hm' Tryz.func98 rfl (by kernel_rfl) (Nat.le_of_ble_eq_true rfl) (go_start ?_); generalize hQ : Post Tryz.prog Tryz.f98 _ _ _ _ _ = Q; simp only [stIn, matL, matA, st00, natI])
      simp (disch := omega) only [go_sem, ↓k_cond, ↓x_idx, ↓k_block, Nat.reduceEqDiff, Nat.reduceBEq, ↓reduceIte, reduceCtorEq, h1, h2, hne, List.length_append, List.length_cons, List.length_nil]
      (repeat (with_reducible refine Or.inr ?_))
      rw [← hQ]
      exact post_two (.inl rfl) rfl (by simp [upd_app]) (by simp [upd_app, k1, k2]) rfl rfl
attribute [go_sem] w_ratText
theorem w_told {m : Nat} {q : Rat} (h : m ≤ 274877906944) : CW Tryz.prog 37 [rI m q] (optT (toldR q)) := by
  refine cw (by kernel_rfl) (by simp [AV.pure, AV.pureL, natA_pure, natI_pure, natS_pure]) (by simp [AV.pure, AV.pureL, natA_pure, natI_pure, natS_pure]) ?_
  have h1 := w_ratText (m := m) (q := q) h
  rw [toldR]
  by_cases c : okR q = true
  · rw [if_pos c, optT_s]
    rw [c] at h1
    (refine callOk_of_wpc (W := fun _ => false) false hm' Tryz.func37 rfl (by kernel_rfl) (Nat.le_of_ble_eq_true rfl) (go_start ?_); generalize hQ : Post Tryz.prog Tryz.f37 _ _ _ _ _ = Q; simp only [stIn, matL, matA, st00])
    simp (disch := omega) only [go_sem, ↓k_cond, ↓x_idx, ↓k_block, Nat.reduceEqDiff, Nat.reduceBEq, ↓reduceIte, reduceCtorEq, h1]
    (repeat (with_reducible refine Or.inr ?_))
    rw [← hQ]
    exact post_two (.inl rfl) rfl (by simp [upd_app] <;> omega) (by simp [upd_app] <;> omega) rfl rfl
  · rw [if_neg c, optT_n]
    simp only [Bool.not_eq_true] at c
    rw [c] at h1
    (refine callOk_of_wpc (W := fun _ => false) false hm' Tryz.func37 rfl (by kernel_rfl) (Nat.le_of_ble_eq_true rfl) (go_start ?_); generalize hQ : Post Tryz.prog Tryz.f37 _ _ _ _ _ = Q; simp only [stIn, matL, matA, st00])
    simp (disch := omega) only [go_sem, ↓k_cond, ↓x_idx, ↓k_block, Nat.reduceEqDiff, Nat.reduceBEq, ↓reduceIte, reduceCtorEq, h1]
    (repeat (with_reducible refine Or.inr ?_))
    rw [← hQ]
    exact post_two (.inl rfl) rfl (by simp [upd_app] <;> omega) (by simp [upd_app] <;> omega) rfl rfl
theorem i_toldList {m : Nat} {qs : List Rat} (hmb : m ≤ 274877906944) (hl : qs.length ≤ 1000) (h0 : qs ≠ []) : CallOk Tryz.prog 59 [lI m qs] (optTL (qs.mapM toldR)) [] := by
  obtain ⟨n, hn⟩ : ∃ n, qs.length = n := ⟨_, rfl⟩
  have hn0 := List.length_pos_iff.2 h0
  rw [hn] at hl hn0
  (refine callOk_of_wpc (W := fun _ => false) true hm' Tryz.func59 rfl (by kernel_rfl) (Nat.le_of_ble_eq_true rfl) (go_start ?_); generalize hQ : Post Tryz.prog Tryz.f59 _ _ _ _ _ = Q; simp only [stIn, matL, matA, st00])
  simp (disch := omega) only [go_sem, ↓k_cond, ↓x_idx, ↓k_block, Nat.reduceEqDiff, Nat.reduceBEq, ↓reduceIte, reduceCtorEq, hn]
  refine k_loop (fun (⟨i, ts⟩ : Nat × List (List UInt8)) st => st.fr 4 = .ref 0 i 0 i ∧ st.fr 10 = lI m qs ∧ st.fr 11 = .int .i64 n ∧ st.fr 12 = .int .i64 i ∧ st.h 0 = ⟨9, strA ts, (i == 0), true, true⟩ ∧ 0 < st.nx ∧ (ts.length = i) ∧ (i ≤ n) ∧ ((qs.take i).mapM toldR = some ts)) (fun (⟨i, ts⟩ : Nat × List (List UInt8)) => n - i) (0, [])
    ⟨(by simp [upd_app, strA] <;> omega), (by simp [upd_app, strA] <;> omega), (by simp [upd_app, strA] <;> omega), (by simp [upd_app, strA] <;> omega), (by simp [upd_app, strA] <;> omega), (by simp <;> omega), rfl, by omega, rfl⟩ ?_
  rintro ⟨i, ts⟩ ⟨fr, h, nx⟩ ⟨g4, g10, g11, g12, hm0, hnx, htl, hi, hq⟩ J hJ
  simp only at g4 g10 g11 g12 hm0 hnx
  have n1 : (0 = nx) = False := by simp; omega
  have n2 : (nx = 0) = False := by simp; omega
  by_cases hin : i < n
  · obtain ⟨q, hqi⟩ := get_some (xs := qs) (i := i) (by omega)
    have hg := w_ratText (m := m) (q := q) hmb
    by_cases hok : okR q = true
    · have hp : toldR q = some (numS q) := by rw [toldR, if_pos hok]
      have hmt := mapM_take hq hqi hp
      rw [hok] at hg
      have hel : (strA ts).length = i := by rw [strA_length, htl]
      simp (disch := omega) only [go_sem, ↓k_cond, ↓x_idx, ↓k_block, Nat.reduceEqDiff, Nat.reduceBEq, ↓reduceIte, reduceCtorEq, g4, g10, g11, g12, hqi, hg, hm0, hel, n1, n2, reach]
      (repeat (with_reducible refine Or.inr ?_))
      exact hJ (i + 1, ts ++ [numS q]) _ ⟨(by simp [upd_app] <;> omega), (by simp [upd_app, g10] <;> omega), (by simp [upd_app, g11] <;> omega), (by simp [upd_app] <;> omega), by simp [upd_app, strA, n1, n2, hm0], (by simp <;> omega), by simp [htl], hin, hmt⟩ (by simp only; omega)
    · have hp : toldR q = none := by rw [toldR, if_neg hok]
      simp only [Bool.not_eq_true] at hok
      rw [mapM_fail hqi hp, optTL] at hQ
      rw [hok] at hg
      simp (disch := omega) only [go_sem, ↓k_cond, ↓x_idx, ↓k_block, Nat.reduceEqDiff, Nat.reduceBEq, ↓reduceIte, reduceCtorEq, g4, g10, g11, g12, hqi, hg]
      (repeat (with_reducible refine Or.inr ?_))
      rw [← hQ]
      exact postT_two (.inl rfl) rfl (by simp [upd_app] <;> omega) (by simp [upd_app] <;> omega) rfl rfl
  · obtain rfl : i = n := by omega
    rw [List.take_of_length_le (by omega)] at hq
    rw [hq, optTL] at hQ
    simp (disch := omega) only [go_sem, ↓k_cond, ↓x_idx, ↓k_block, Nat.reduceEqDiff, Nat.reduceBEq, ↓reduceIte, reduceCtorEq, g4, g10, g11, g12]
    rw [← hQ]
    have hz : (i == 0) = false := by simp; omega
    exact post_ownB (id := 0) (n := i) (len := i) (.inl rfl) rfl (by simp [upd_app] <;> omega) (by simp [upd_app] <;> omega) (by simp [hm0]) (by simp [hm0, strA_length, htl]) (by simp [hm0]) (by simp [hm0]) (Nat.le_refl _) (by simp only [hm0]; exact List.take_of_length_le (by rw [strA_length, htl]; exact Nat.le_refl _)) (by simp [hm0, hz]) (by simp [hm0, hz]) (strA_pure _) rfl
attribute [go_sem] w_told
theorem w_seriesOf {xs : List (List UInt8)} (hl : xs.length < 9223372036854775808) (hs : ∀ x ∈ xs, x.length < 9223372036854775808) : CW Tryz.prog 31 [.sl 9 (strA xs) [] false] (optLI (serR xs)) := by
  refine cw (by kernel_rfl) (by simp [AV.pure, AV.pureL, natA_pure, natI_pure, natS_pure]) (by simp [AV.pure, AV.pureL, natA_pure, natI_pure, natS_pure]) ?_
  have h1 := w_rats (xs := xs) hl hs
  obtain ⟨n, hn⟩ : ∃ n, xs.length = n := ⟨_, rfl⟩
  rw [serR, hn]
  rw [hn] at hl
  by_cases c1 : 1 ≤ n
  · by_cases c2 : n ≤ 13
    · rw [if_pos ⟨c1, c2⟩]
      cases hq : listR xs with
      | none =>
        rw [hq] at h1
        (refine callOk_of_wpc (W := fun _ => false) false hm' Tryz.func31 rfl (by kernel_rfl) (Nat.le_of_ble_eq_true rfl) (go_start ?_); generalize hQ : Post Tryz.prog Tryz.f31 _ _ _ _ _ = Q; simp only [stIn, matL, matA, st00])
        simp (disch := omega) only [go_sem, ↓k_cond, ↓x_idx, ↓k_block, Nat.reduceEqDiff, Nat.reduceBEq, ↓reduceIte, reduceCtorEq, h1, strA_length, hn]
        (repeat (with_reducible refine Or.inr ?_))
        rw [← hQ]
        exact post_two (.inl rfl) rfl (by simp [upd_app] <;> omega) (by simp [upd_app] <;> omega) rfl rfl
      | some qs =>
        rw [hq] at h1
        (refine callOk_of_wpc (W := fun _ => false) false hm' Tryz.func31 rfl (by kernel_rfl) (Nat.le_of_ble_eq_true rfl) (go_start ?_); generalize hQ : Post Tryz.prog Tryz.f31 _ _ _ _ _ = Q; simp only [stIn, matL, matA, st00])
        simp (disch := omega) only [go_sem, ↓k_cond, ↓x_idx, ↓k_block, Nat.reduceEqDiff, Nat.reduceBEq, ↓reduceIte, reduceCtorEq, h1, strA_length, hn]
        (repeat (with_reducible refine Or.inr ?_))
        rw [← hQ]
        exact post_two (.inl rfl) rfl (by simp [upd_app] <;> omega) (by simp [upd_app] <;> omega) (by simp [AV.pure, AV.pureL, natA_pure, natI_pure, natS_pure]) rfl
    · rw [if_neg (by omega)]
      (refine callOk_of_wpc (W := fun _ => false) false hm' Tryz.func31 rfl (by kernel_rfl) (Nat.le_of_ble_eq_true rfl) (go_start ?_); generalize hQ : Post Tryz.prog Tryz.f31 _ _ _ _ _ = Q; simp only [stIn, matL, matA, st00])
      simp (disch := omega) only [go_sem, ↓k_cond, ↓x_idx, ↓k_block, Nat.reduceEqDiff, Nat.reduceBEq, ↓reduceIte, reduceCtorEq, strA_length, hn]
      rw [← hQ]
      exact post_two (.inl rfl) rfl (by simp [upd_app] <;> omega) (by simp [upd_app] <;> omega) rfl rfl
  · rw [if_neg (by omega)]
    obtain rfl : n = 0 := by omega
    (refine callOk_of_wpc (W := fun _ => false) false hm' Tryz.func31 rfl (by kernel_rfl) (Nat.le_of_ble_eq_true rfl) (go_start ?_); generalize hQ : Post Tryz.prog Tryz.f31 _ _ _ _ _ = Q; simp only [stIn, matL, matA, st00])
    simp (disch := omega) only [go_sem, ↓k_cond, ↓x_idx, ↓k_block, Nat.reduceEqDiff, Nat.reduceBEq, ↓reduceIte, reduceCtorEq, strA_length, hn]
    rw [← hQ]
    exact post_two (.inl rfl) rfl (by simp [upd_app] <;> omega) (by simp [upd_app] <;> omega) rfl rfl
theorem facI_fits {qs : List Rat} {n k i : Nat} {q : Rat} (hq : fits 700 q) (hk : k ≤ 12) (hi : i ≤ 6) : fits 764 (q * (facP k i : Rat)) := fits_mul hq (facP_fits hk hi) (fits_pos hq)
attribute [go_sem] w_seriesOf
theorem w_factorMoment {qs : List Rat} {n : Nat} (hl : qs.length ≤ 13) (hn6 : n ≤ 6) : CW Tryz.prog 68 [lI 700 qs, .int .i64 n] (rI (64 + qs.length * 765) (facSum qs n qs.length)) := by
  refine cw (by kernel_rfl) (by simp [AV.pure, AV.pureL, natA_pure, natI_pure, natS_pure]) (by simp [AV.pure, AV.pureL, natA_pure, natI_pure, natS_pure]) ?_
  refine callOk_told (x := lI 700 qs) told_lI (by simp) (by simp [AV.pure, AV.pureL, natA_pure, natI_pure, natS_pure]) fun hfit => ?_
  obtain ⟨L, hL⟩ : ∃ n, qs.length = n := ⟨_, rfl⟩
  rw [hL] at hl ⊢
  (refine callOk_of_wpc (W := fun _ => false) false hm' Tryz.func68 rfl (by kernel_rfl) (Nat.le_of_ble_eq_true rfl) (go_start ?_); generalize hQ : Post Tryz.prog Tryz.f68 _ _ _ _ _ = Q; simp only [stIn, matL, matA, st00])
  simp (disch := omega) only [go_sem, ↓k_cond, ↓x_idx, ↓k_block, Nat.reduceEqDiff, Nat.reduceBEq, ↓reduceIte, reduceCtorEq, hL]
  (repeat (with_reducible refine Or.inr ?_))
  refine k_loop (fun (k : Nat) st => st.fr 1 = .int .i64 n ∧ st.fr 4 = .ptr 0 1 0 0 ∧ st.fr 5 = .ptr 1 1 0 0 ∧ st.fr 10 = lI 700 qs ∧ st.fr 11 = .int .i64 L ∧ st.fr 12 = .int .i64 k ∧ st.h 0 = ⟨52, [.agg [.bool false, .nil, .nil]], true, false, true⟩ ∧ st.h 1 = ⟨52, [rI (64 + k * 765) (facSum qs n k)], true, false, true⟩ ∧ 1 < st.nx ∧ (k ≤ L)) (fun (k : Nat) => L - k) (0)
    ⟨(by simp [upd_app, facSum] <;> omega), (by simp [upd_app, facSum] <;> omega), (by simp [upd_app, facSum] <;> omega), (by simp [upd_app, facSum] <;> omega), (by simp [upd_app, facSum] <;> omega), (by simp [upd_app, facSum] <;> omega), (by simp [upd_app, facSum] <;> omega), (by simp [upd_app, facSum] <;> omega), (by simp <;> omega), by omega⟩ ?_
  rintro k ⟨fr, h, nx⟩ ⟨g1, g4, g5, g10, g11, g12, hm0, hm1, hnx, hk⟩ J hJ
  simp only at g1 g4 g5 g10 g11 g12 hm0 hm1 hnx
  have n1 : (0 = nx) = False := by simp; omega
  have n2 : (nx = 0) = False := by simp; omega
  have n3 : (1 = nx) = False := by simp; omega
  have n4 : (nx = 1) = False := by simp; omega
  by_cases hin : k < L
  · obtain ⟨q, hq⟩ := get_some (xs := qs) (i := k) (by omega)
    have hqf := hfit q (List.mem_of_getElem? hq)
    have hre : rI 700 q = rI 764 q := rI_re hqf (fits_mono hqf (by decide))
    have hgd : qs.getD k 0 = q := by rw [List.getD_eq_getElem?_getD, hq]; rfl
    have keyJ := hJ (k + 1)
    have e : 64 + (k + 1) * 765 = 64 + k * 765 + 764 + 1 := by omega
    rw [facSum, hgd, e] at keyJ
    clear hJ
    simp (disch := omega) only [go_sem, ↓k_cond, ↓x_idx, ↓k_block, Nat.reduceEqDiff, Nat.reduceBEq, ↓reduceIte, reduceCtorEq, g1, g4, g5, g10, g11, g12, hq]
    refine k_loop (fun (i : Nat) st => st.fr 1 = .int .i64 n ∧ st.fr 4 = .ptr 0 1 0 0 ∧ st.fr 5 = .ptr 1 1 0 0 ∧ st.fr 6 = .int .i64 k ∧ st.fr 7 = .ptr nx 1 0 0 ∧ st.fr 10 = lI 700 qs ∧ st.fr 11 = .int .i64 L ∧ st.fr 12 = .int .i64 k ∧ st.fr 17 = .int .i64 n ∧ st.fr 18 = .int .i64 i ∧
        st.h 0 = ⟨52, [.agg [.bool false, .nil, .nil]], true, false, true⟩ ∧ st.h 1 = ⟨52, [rI (64 + k * 765) (facSum qs n k)], true, false, true⟩ ∧ st.h nx = ⟨52, [rI 764 (q * (facP k i : Rat))], true, false, true⟩ ∧ nx < st.nx ∧ i ≤ n) (fun i => n - i) 0
      ⟨(by simp [upd_app, g1] <;> omega), (by simp [upd_app, g4] <;> omega), (by simp [upd_app, g5] <;> omega), (by simp [upd_app] <;> omega), (by simp [upd_app] <;> omega), (by simp [upd_app, g10] <;> omega), (by simp [upd_app, g11] <;> omega), (by simp [upd_app, g12] <;> omega), (by simp [upd_app] <;> omega), (by simp [upd_app] <;> omega), by simp [upd_app, n1, hm0], by simp [upd_app, n3, hm1], by simp [upd_app, facP, Rat.mul_one, hre], by simp, by omega⟩ ?_
    rintro i ⟨fr2, h2, nx2⟩ ⟨r1, r4, r5, r6, r7, r10, r11, r12, r17, r18, m0, m1, mx, hx2, hi⟩ J2 hJ2
    simp only at r1 r4 r5 r6 r7 r10 r11 r12 r17 r18 m0 m1 mx hx2
    by_cases hin2 : i < n
    · have hw : IntKind.i64.wrap ((k : Int) - (i : Int)) = (k : Int) - (i : Int) := wrapI (by omega) (by omega)
      have hf := facI_fits (q := q) (n := n) (qs := qs) (k := k) (i := i + 1) hqf (by omega) (by omega)
      have hrr : rI (764 + 64) (q * (facP k i : Rat) * (((k : Int) - (i : Int) : Int) : Rat)) = rI 764 (q * (facP k (i + 1) : Rat)) := by rw [facP_step]; exact rI_re (fits_mono hf (by decide)) hf
      simp (disch := omega) only [go_sem, ↓k_cond, ↓x_idx, ↓k_block, Nat.reduceEqDiff, Nat.reduceBEq, ↓reduceIte, reduceCtorEq, r1, r4, r5, r6, r7, r10, r11, r12, r17, r18, m0, m1, mx, hw, hrr]
      (repeat (with_reducible refine Or.inr ?_))
      exact hJ2 (i + 1) _ ⟨(by simp [upd_app, r1] <;> omega), (by simp [upd_app, r4] <;> omega), (by simp [upd_app, r5] <;> omega), (by simp [upd_app, r6] <;> omega), (by simp [upd_app, r7] <;> omega), (by simp [upd_app, r10] <;> omega), (by simp [upd_app, r11] <;> omega), (by simp [upd_app, r12] <;> omega), (by simp [upd_app, r17] <;> omega), (by simp [upd_app] <;> omega), by simp [upd_app, n1, m0], by simp [upd_app, n3, m1], by simp [upd_app], hx2, hin2⟩ (by omega)
    · obtain rfl : i = n := by omega
      simp (disch := omega) only [go_sem, ↓k_cond, ↓x_idx, ↓k_block, Nat.reduceEqDiff, Nat.reduceBEq, ↓reduceIte, reduceCtorEq, r1, r4, r5, r6, r7, r10, r11, r12, r17, r18, m0, m1, mx]
      (repeat (with_reducible refine Or.inr ?_))
      exact keyJ _ ⟨(by simp [upd_app, r1] <;> omega), (by simp [upd_app, r4] <;> omega), (by simp [upd_app, r5] <;> omega), (by simp [upd_app, r10] <;> omega), (by simp [upd_app, r11] <;> omega), (by simp [upd_app] <;> omega), by simp [upd_app, m0], by simp [upd_app], by simp only; omega, hin⟩ (by omega)
  · obtain rfl : k = L := by omega
    simp (disch := omega) only [go_sem, ↓k_cond, ↓x_idx, ↓k_block, Nat.reduceEqDiff, Nat.reduceBEq, ↓reduceIte, reduceCtorEq, g1, g4, g5, g10, g11, g12, hm0, hm1]
    (repeat (with_reducible refine Or.inr ?_))
    rw [← hQ]
    exact post_cell1 (id := 0) (x := rI (64 + k * 765) (facSum qs n k)) (.inl rfl) rfl o_iRat (by simp [upd_app, g4] <;> omega) (by simp [upd_app]) (by simp [upd_app]) ld_iRat (by simp [AV.pure, AV.pureL])
attribute [go_sem] w_factorMoment

theorem endIP {W : FuncId → Bool} {d : Tmp} {ops : Array Oper} {os : List Oper} {fr : Nat → AV} {h : Nat → Blk} {nx m : Nat} {K : St → Prop} {t : TokC ⟨some d, ops, os, fr, h, nx, K⟩} {qs : List Rat} (hm : m ≤ 274877906944) (hl : qs.length ≤ 1000) (h0 : qs ≠ []) (hW : W 59 = true)
  (k1 : qs.mapM toldR = none → wpos Tryz.prog W ops os ⟨upd fr d (.tup [.nil, .bool false]), h, nx⟩ K)
  (k2 : ∀ ts, qs.mapM toldR = some ts → wpos Tryz.prog W ops os ⟨upd fr d (.tup [.ref nx ts.length 0 ts.length, .bool true]), upd h nx ⟨9, strA ts, false, true, true⟩, nx + 1⟩ K) :
  callW Tryz.prog W 59 [lI m qs] ⟨some d, ops, os, fr, h, nx, K⟩ t := by
 have hc := i_toldList (m := m) (qs := qs) hm hl h0
 cases hq : qs.mapM toldR with
 | none =>
  rw [hq] at hc
  exact callW_X hc (by kernel_rfl) (snapL_pure (by simp [AV.pure, AV.pureL, natA_pure, natI_pure, natS_pure])) rfl (matA_pure _ _ _ rfl) hW (k1 hq)
 | some ts =>
  rw [hq] at hc
  refine callW_X hc (by kernel_rfl) (snapL_pure (by simp [AV.pure, AV.pureL, natA_pure, natI_pure, natS_pure])) (optTL_solid (some ts)) (matA_ownB (strA_pure ts) rfl) hW ?_
  have := k2 ts hq
  simpa [strA_length, St.put] using this
theorem w_less {x y : List Rat} (hl : x.length ≤ 1000) (hxy : x.length = y.length) (h1 : 1 ≤ x.length) : CW Tryz.prog 71 [lI 700 x, lI 700 y] (lI 1401 (lesL x y)) := by
  refine cw (by kernel_rfl) (by simp [AV.pure, AV.pureL, natA_pure, natI_pure, natS_pure]) (by simp [AV.pure, AV.pureL, natA_pure, natI_pure, natS_pure]) ?_
  obtain ⟨L, hL⟩ : ∃ n, x.length = n := ⟨_, rfl⟩
  rw [lesL]
  rw [hL] at hl hxy h1 ⊢
  (refine callOk_of_wpc (W := fun _ => false) false hm' Tryz.func71 rfl (by kernel_rfl) (Nat.le_of_ble_eq_true rfl) (go_start ?_); generalize hQ : Post Tryz.prog Tryz.f71 _ _ _ _ _ = Q; simp only [stIn, matL, matA, st00])
  simp (disch := omega) only [go_sem, ↓k_cond, ↓x_idx, ↓k_block, Nat.reduceEqDiff, Nat.reduceBEq, ↓reduceIte, reduceCtorEq, hL]
  refine k_loop (fun (i : Nat) st => st.fr 0 = lI 700 x ∧ st.fr 1 = lI 700 y ∧ st.fr 5 = .ref 0 i 0 i ∧ st.fr 9 = .int .i64 L ∧ st.fr 10 = .int .i64 i ∧ st.h 0 = ⟨52, ratL 1401 (mapF i (lesF x y)), (i == 0), true, true⟩ ∧ 0 < st.nx ∧ (i ≤ L)) (fun (i : Nat) => L - i) (0)
    ⟨(by simp [upd_app, ratL, mapF] <;> omega), (by simp [upd_app, ratL, mapF] <;> omega), (by simp [upd_app, ratL, mapF] <;> omega), (by simp [upd_app, ratL, mapF] <;> omega), (by simp [upd_app, ratL, mapF] <;> omega), (by simp [upd_app, ratL, mapF] <;> omega), (by simp <;> omega), by omega⟩ ?_
  rintro i ⟨fr, h, nx⟩ ⟨g0, g1, g5, g9, g10, hm0, hnx, hi⟩ J hJ
  simp only at g0 g1 g5 g9 g10 hm0 hnx
  by_cases hin : i < L
  · obtain ⟨p, hp⟩ := get_some (xs := x) (i := i) (by omega)
    obtain ⟨q, hq⟩ := get_some (xs := y) (i := i) (by omega)
    have hel : (ratL 1401 (mapF i (lesF x y))).length = i := by rw [ratL_length, mapF_len]
    have hz1 : (i + 1 == 0) = false := by simp
    have hsn : ratL 1401 (mapF i (lesF x y)) ++ [rI 1401 (p - q)] = ratL 1401 (mapF (i + 1) (lesF x y)) := by rw [mapF_succ, ratL_snoc, lesF, getD_of hp, getD_of hq]
    simp (disch := omega) only [go_sem, ↓k_cond, ↓x_idx, ↓k_block, Nat.reduceEqDiff, Nat.reduceBEq, ↓reduceIte, reduceCtorEq, g0, g1, g5, g9, g10, hp, hq, hL, hm0, hel, reach, Nat.reduceAdd]
    (repeat (with_reducible refine Or.inr ?_))
    exact hJ (i + 1) _ ⟨(by simp [upd_app, g0] <;> omega), (by simp [upd_app, g1] <;> omega), (by simp [upd_app] <;> omega), (by simp [upd_app, g9] <;> omega), (by simp [upd_app] <;> omega), by simp only [upd_app, ↓reduceIte, Nat.reduceEqDiff, hsn, hz1], (by simp <;> omega), by omega⟩ (by first | omega | (simp only; omega))
  · obtain rfl : i = L := by omega
    simp (disch := omega) only [go_sem, ↓k_cond, ↓x_idx, ↓k_block, Nat.reduceEqDiff, Nat.reduceBEq, ↓reduceIte, reduceCtorEq, g0, g1, g5, g9, g10, hL]
    rw [← hQ]
    exact post_frozen (id := 0) (n := i) (off := 0) (len := i) (.inl rfl) rfl (by simp [upd_app] <;> omega) (by simp [hm0]) (by simp [hm0, ratL_length, mapF_len]) (by simp [hm0]) (by omega) (Nat.zero_le _) (by simp only [hm0, List.drop_zero]; exact List.take_of_length_le (by rw [ratL_length, mapF_len]; exact Nat.le_refl _)) (by simp [AV.pure, AV.pureL, natA_pure, natI_pure, natS_pure])
attribute [go_sem] w_less
end Go.Proofs.YtjilbkkappobpaaGreatDoor
