/- Ground 11. -/
import Derived.Lib.ItoaNum
import Derived.Test.YtgfencjehdbjcaaGreatDoorM10

set_option linter.unusedVariables false
set_option linter.unusedSimpArgs false
set_option maxRecDepth 100000
namespace Go.Proofs.YtgfencjehdbjcaaGreatDoor
open Go

theorem tn0 : Int.toNat 0 = 0 := rfl
theorem tn1 : Int.toNat 1 = 1 := rfl
attribute [go_sem] tn0 tn1
theorem gen_readRat {s : List UInt8} (hs : s.length ≤ 1000000) : ∃ x y z, CW Tryz.prog 45 [.str s] (.tup [.agg [x, y, z], .bool (parseR s).isSome]) ∧ x.one = true ∧ y.one = true ∧ z.one = true := by
 have h := w_readRat (s := s) (by omega)
 cases hq : parseR s with
 | none => rw [hq] at h; exact ⟨_, _, _, h, rfl, rfl, rfl⟩
 | some q => rw [hq] at h; exact ⟨_, _, _, h, rfl, by simp, by simp⟩
def posR (s : List UInt8) : Option Rat := match parseR s with | some q => if 0 < q then some q else none | none => none
def posI : Option Rat → AV
 | some q => .tup [rI 700 q, .bool (decide (0 < q))]
 | none => .tup [.agg [.bool false, .nil, .nil], .bool false]
theorem posI_s (q : Rat) : posI (some q) = .tup [rI 700 q, .bool (decide (0 < q))] := rfl
theorem posI_n : posI none = .tup [.agg [.bool false, .nil, .nil], .bool false] := rfl
@[simp] theorem posI_pure (o : Option Rat) : (posI o).pure = true := by cases o <;> simp [posI, AV.pure, AV.pureL]
attribute [go_sem] posI_s posI_n
theorem sign_pos (q : Rat) : decide (0 < q.num.sign) = decide (0 < q) := by
  have h1 : 0 < q.num ↔ 0 < q := by
    have a := Rat.num_nonneg (q := q)
    have b := num_zero (a := q)
    constructor
    · intro h; exact Rat.lt_of_le_of_ne (a.1 (by omega)) (fun e => by rw [← e] at h; simp at h)
    · intro h
      have h2 := a.2 (Rat.le_of_lt h)
      have h3 : q.num ≠ 0 := fun e => by rw [b.1 e] at h; exact Rat.lt_irrefl h
      omega
  have h2 : 0 < q.num.sign ↔ 0 < q.num := by
    rcases Int.lt_trichotomy q.num 0 with h | h | h
    · rw [Int.sign_eq_neg_one_of_neg h]; omega
    · rw [h]; simp
    · rw [Int.sign_eq_one_of_pos h]; omega
  exact decide_eq_decide.2 (h2.trans h1)
theorem w_positive {s : List UInt8} (hs : s.length ≤ 1000000) : CW Tryz.prog 77 [.str s] (posI (parseR s)) := by
 refine cw (by kernel_rfl) (by simp [AV.pure, AV.pureL]) (by simp [AV.pure, AV.pureL]) ?_
 have h := w_readRat (s := s) (by omega)
 cases hq : parseR s with
 | none =>
  rw [hq] at h
  (refine callOk_of_wpc (W := fun _ => false) false hm' Tryz.func77 rfl (by kernel_rfl) (Nat.le_of_ble_eq_true rfl) (go_start ?_); generalize hQ : Post Tryz.prog Tryz.f77 _ _ _ _ _ = Q; simp only [stIn, matL, matA, st00])
  simp (disch := omega) only [go_sem, Nat.reduceEqDiff, Nat.reduceBEq, ↓reduceIte, reduceCtorEq, h]
  (repeat (with_reducible refine Or.inr ?_))
  rw [← hQ]
  exact post_cell (id := 0) (x := .agg [.bool false, .nil, .nil]) (.inl rfl) rfl o_iRat (by simp [upd_app] <;> omega) (by simp [upd_app]) (by simp [upd_app]) ld_iRat (by simp [upd_app] <;> omega) rfl rfl
 | some q =>
  rw [hq] at h
  have hsg := sign_pos q
  have hs2 := w_sign (m := 700) (a := q) (by omega)
  rw [posI_s, ← hsg]
  generalize q.num.sign = sg at *
  by_cases hp : 0 < sg
  all_goals
   (refine callOk_of_wpc (W := fun _ => false) false hm' Tryz.func77 rfl (by kernel_rfl) (Nat.le_of_ble_eq_true rfl) (go_start ?_); generalize hQ : Post Tryz.prog Tryz.f77 _ _ _ _ _ = Q; simp only [stIn, matL, matA, st00])
   simp (disch := omega) only [go_sem, Nat.reduceEqDiff, Nat.reduceBEq, ↓reduceIte, reduceCtorEq, h, hs2]
   (repeat (with_reducible refine Or.inr ?_))
   rw [← hQ]
   exact post_cell (id := 0) (x := rI 700 q) (.inl rfl) rfl o_iRat (by simp [upd_app] <;> omega) (by simp [upd_app]) (by simp [upd_app]) ld_iRat (by simp [upd_app]; omega) (by simp [AV.pure, AV.pureL]) rfl
attribute [go_sem] w_positive
attribute [go_sem] w_positive
theorem w_positives {xs : List (List UInt8)} {ex : Bool} (hl : xs.length ≤ 1000000) (hs : ∀ x ∈ xs, x.length ≤ 1000000) : CW Tryz.prog 44 [.sl 9 (strA xs) [] ex] (optLI (xs.mapM posR)) := by
  refine cw (by kernel_rfl) (by simp [AV.pure, AV.pureL]) (by simp [AV.pure, AV.pureL]) ?_
  obtain ⟨n, hn⟩ : ∃ n, xs.length = n := ⟨_, rfl⟩
  rw [hn] at hl
  (refine callOk_of_wpc (W := fun _ => false) false hm' Tryz.func44 rfl (by kernel_rfl) (Nat.le_of_ble_eq_true rfl) (go_start ?_); generalize hQ : Post Tryz.prog Tryz.f44 _ _ _ _ _ = Q; simp only [stIn, matL, matA, st00])
  simp (disch := omega) only [go_sem, Nat.reduceEqDiff, Nat.reduceBEq, ↓reduceIte, reduceCtorEq, strA_length, hn]
  refine k_loop (fun (⟨i, qs⟩ : Nat × List Rat) st => st.fr 4 = .ref 0 i 0 i ∧ st.fr 10 = .sl 9 (strA xs) [] ex ∧ st.fr 11 = .int .i64 n ∧ st.fr 12 = .int .i64 i ∧ (∃ ex, st.h 0 = ⟨53, ratL 700 qs, ex, true, true⟩) ∧ 0 < st.nx ∧ (qs.length = i) ∧ (i ≤ n) ∧ ((xs.take i).mapM posR = some qs)) (fun (⟨i, qs⟩ : Nat × List Rat) => n - i) (0, [])
    ⟨(by simp [upd_app, ratL_nil] <;> omega), (by simp [upd_app, ratL_nil] <;> omega), (by simp [upd_app, ratL_nil] <;> omega), (by simp [upd_app, ratL_nil] <;> omega), ⟨true, (by simp [upd_app, ratL_nil] <;> omega)⟩, (by simp <;> omega), rfl, by omega, by simp⟩ ?_
  rintro ⟨i, qs⟩ ⟨fr, h, nx⟩ ⟨g4, g10, g11, g12, ⟨ex0, hm0⟩, hnx, hql, hi, hq⟩ J hJ
  simp only at g4 g10 g11 g12 hm0 hnx
  have n1 : (0 = nx) = False := by simp; omega
  have n2 : (nx = 0) = False := by simp; omega
  by_cases hin : i < n
  · obtain ⟨x, hx⟩ := get_some (xs := xs) (i := i) (by omega)
    have hxl := hs x (List.mem_of_getElem? hx)
    cases hp : parseR x with
    | none =>
      rw [mapM_fail hx (show posR x = none by simp [posR, hp])] at hQ
      simp (disch := omega) only [go_sem, Nat.reduceEqDiff, Nat.reduceBEq, ↓reduceIte, reduceCtorEq, g4, g10, g11, g12, strA_at, hx, strA_length, hn, hp]
      (repeat (with_reducible refine Or.inr ?_))
      rw [← hQ]
      exact post_two (.inl rfl) rfl (by simp [upd_app] <;> omega) (by simp [upd_app] <;> omega) rfl rfl
    | some q =>
      by_cases h0 : 0 < q
      · have hd : decide (0 < q) = true := by simpa using h0
        have hmt := mapM_take hq hx (show posR x = some q by simp [posR, hp, h0])
        simp (disch := omega) only [go_sem, Nat.reduceEqDiff, Nat.reduceBEq, ↓reduceIte, reduceCtorEq, g4, g10, g11, g12, hm0, strA_at, hx, strA_length, hn, hp, hd, n1, n2, hql, reach]
        (repeat (with_reducible refine Or.inr ?_))
        exact hJ (i + 1, qs ++ [q]) _ ⟨(by simp [upd_app] <;> omega), (by simp [upd_app, g10] <;> omega), (by simp [upd_app, g11] <;> omega), (by simp [upd_app] <;> omega), ⟨false, by simp [upd_app, n1, n2, hm0, ratL]⟩, (by simp <;> omega), by simp [hql], hin, hmt⟩ (by simp only; omega)
      · have hd : decide (0 < q) = false := by simpa using h0
        rw [mapM_fail hx (show posR x = none by simp [posR, hp, h0])] at hQ
        simp (disch := omega) only [go_sem, Nat.reduceEqDiff, Nat.reduceBEq, ↓reduceIte, reduceCtorEq, g4, g10, g11, g12, strA_at, hx, strA_length, hn, hp, hd]
        (repeat (with_reducible refine Or.inr ?_))
        rw [← hQ]
        exact post_two (.inl rfl) rfl (by simp [upd_app] <;> omega) (by simp [upd_app] <;> omega) rfl rfl
  · obtain rfl : i = n := by omega
    rw [List.take_of_length_le (by omega)] at hq
    rw [hq] at hQ
    simp (disch := omega) only [go_sem, Nat.reduceEqDiff, Nat.reduceBEq, ↓reduceIte, reduceCtorEq, g4, g10, g11, g12]
    rw [← hQ]
    have hfz : snapA (⟨_, h, nx⟩ : St) 7 (.ref 0 i 0 i) = some (.sl 53 (ratL 700 qs) [] false, [0]) := snap_frozen (st := ⟨fr, h, nx⟩) (d := 6) (by simp [hm0]) (by simp [hm0, ratL_length, hql]) (by simp [hm0]) (by simp) (by simp [hm0]; exact List.take_of_length_le (by simp [ratL_length, hql])) ratL_pure
    exact post_tup (.inl rfl) rfl (by simp [upd_app] <;> omega) (by simp [upd_app] <;> omega) hfz (snapA_pure rfl) (fun a _ => Nat.zero_le _) (.inl rfl)
abbrev MR.iv (x : MR) : AV := .agg [.int .i64 x.room, .bool (decide (x.come.num < 0)), tI 700 x.come, dI 700 x.come, .bool (decide (x.serve.num < 0)), tI 700 x.serve, dI 700 x.serve,
 .bool (decide (x.reward.num < 0)), tI 700 x.reward, dI 700 x.reward, .bool (decide (x.cost.num < 0)), tI 700 x.cost, dI 700 x.cost]
abbrev zeroMI : AV := .agg [.int .i64 0, .bool false, .nil, .nil, .bool false, .nil, .nil, .bool false, .nil, .nil, .bool false, .nil, .nil]
def modI : Option MR → AV
 | some x => .tup [x.iv, .bool true]
 | none => .tup [zeroMI, .bool false]
theorem modI_s (x : MR) : modI (some x) = .tup [x.iv, .bool true] := rfl
theorem modI_n : modI none = .tup [zeroMI, .bool false] := rfl
@[simp] theorem modI_pure (o : Option MR) : (modI o).pure = true := by cases o <;> simp [modI, AV.pure, AV.pureL]
attribute [go_sem] modI_s modI_n
theorem list2_sum (c s : Rat) : sumL [c, s] = c + s := by simp [sumL, Rat.zero_add]
set_option maxHeartbeats 8000000 in
theorem i_modelOf (m : Mdl) (hm0 : m.small) :
    CW Tryz.prog 23 [m.av] (modI (modR m)) := by
  refine cw (by kernel_rfl) (by simp [AV.pure, AV.pureL]) (by simp [AV.pure, AV.pureL]) ?_
  obtain ⟨l1, l2, l3, l4⟩ := hm0
  obtain ⟨x3, y3, z3, g3, a3, b3, c3⟩ := gen_readRat l3
  obtain ⟨x4, y4, z4, g4, a4, b4, c4⟩ := gen_readRat l4
  have hpos := w_positives (xs := [m.come, m.serve]) (ex := true) (by simp) (by simp [l1, l2])
  have hM : [m.come, m.serve].mapM posR = match posR m.come, posR m.serve with | some c, some s => some [c, s] | _, _ => none := by
    simp only [List.mapM_cons, List.mapM_nil]
    cases posR m.come <;> cases posR m.serve <;> rfl
  rw [hM] at hpos
  simp only [strA, List.map_cons, List.map_nil] at hpos
  have hbad : ∀ c s r k, parseR m.come = some c → parseR m.serve = some s → parseR m.reward = some r → parseR m.cost = some k → ¬ modOk m c s r k → modR m = none := by
    intro c s r k e1 e2 e3 e4 h
    simp only [modR, e1, e2, e3, e4, if_neg h]
  have hnp : (posR m.come = none ∨ posR m.serve = none) → modR m = none := by
    intro h
    unfold modR
    split
    · rename_i c s r k e1 e2 e3 e4
      refine if_neg fun ho => ?_
      simp only [posR, e1, e2, if_pos ho.2.2.1, if_pos ho.2.2.2.1] at h
      simp at h
    · rfl
  have hnone : (parseR m.reward = none ∨ parseR m.cost = none) → modR m = none := by
    intro h
    unfold modR
    split
    · rename_i e1 e2 e3 e4; simp [e3, e4] at h
    · rfl
  cases p1 : posR m.come with
  | none =>
    rw [p1] at hpos
    rw [hnp (.inl p1)]
    (refine callOk_of_wpc (W := fun _ => false) false hm' Tryz.func23 rfl (by kernel_rfl) (Nat.le_of_ble_eq_true rfl) (go_start ?_); generalize hQ : Post Tryz.prog Tryz.f23 _ _ _ _ _ = Q; simp only [stIn, matL, matA, st00])
    simp (disch := omega) only [go_sem, Nat.reduceEqDiff, Nat.reduceBEq, ↓reduceIte, reduceCtorEq, hpos, g3, g4, a3, b3, c3, a4, b4, c4]
    (repeat (with_reducible refine Or.inr ?_))
    rw [← hQ]
    exact post_cell (id := 1) (x := zeroMI) (.inl rfl) rfl o_imodel (by simp [upd_app] <;> omega) (by simp [upd_app]) (by simp [upd_app]) ld_imodel (by simp [upd_app] <;> omega) (by simp [AV.pure, AV.pureL]) rfl
  | some c =>
  cases p2 : posR m.serve with
  | none =>
    rw [p1, p2] at hpos
    rw [hnp (.inr p2)]
    (refine callOk_of_wpc (W := fun _ => false) false hm' Tryz.func23 rfl (by kernel_rfl) (Nat.le_of_ble_eq_true rfl) (go_start ?_); generalize hQ : Post Tryz.prog Tryz.f23 _ _ _ _ _ = Q; simp only [stIn, matL, matA, st00])
    simp (disch := omega) only [go_sem, Nat.reduceEqDiff, Nat.reduceBEq, ↓reduceIte, reduceCtorEq, hpos, g3, g4, a3, b3, c3, a4, b4, c4]
    (repeat (with_reducible refine Or.inr ?_))
    rw [← hQ]
    exact post_cell (id := 1) (x := zeroMI) (.inl rfl) rfl o_imodel (by simp [upd_app] <;> omega) (by simp [upd_app]) (by simp [upd_app]) ld_imodel (by simp [upd_app] <;> omega) (by simp [AV.pure, AV.pureL]) rfl
  | some s =>
  rw [p1, p2] at hpos
  simp only at hpos
  have q1 : parseR m.come = some c ∧ 0 < c := by
    unfold posR at p1
    split at p1
    · rename_i q hq; split at p1 <;> simp at p1; subst p1; exact ⟨hq, by assumption⟩
    · cases p1
  have q2 : parseR m.serve = some s ∧ 0 < s := by
    unfold posR at p2
    split at p2
    · rename_i q hq; split at p2 <;> simp at p2; subst p2; exact ⟨hq, by assumption⟩
    · cases p2
  cases e3 : parseR m.reward with
  | none =>
    rw [e3] at g3
    rw [hnone (.inl e3)]
    (refine callOk_of_wpc (W := fun _ => false) false hm' Tryz.func23 rfl (by kernel_rfl) (Nat.le_of_ble_eq_true rfl) (go_start ?_); generalize hQ : Post Tryz.prog Tryz.f23 _ _ _ _ _ = Q; simp only [stIn, matL, matA, st00])
    simp (disch := omega) only [go_sem, Nat.reduceEqDiff, Nat.reduceBEq, ↓reduceIte, reduceCtorEq, hpos, g3, g4, a3, b3, c3, a4, b4, c4, Option.isSome_none]
    (repeat (with_reducible refine Or.inr ?_))
    rw [← hQ]
    exact post_cell (id := 1) (x := zeroMI) (.inl rfl) rfl o_imodel (by simp [upd_app] <;> omega) (by simp [upd_app]) (by simp [upd_app]) ld_imodel (by simp [upd_app] <;> omega) (by simp [AV.pure, AV.pureL]) rfl
  | some r =>
  cases e4 : parseR m.cost with
  | none =>
    rw [e3] at g3; rw [e4] at g4
    rw [hnone (.inr e4)]
    (refine callOk_of_wpc (W := fun _ => false) false hm' Tryz.func23 rfl (by kernel_rfl) (Nat.le_of_ble_eq_true rfl) (go_start ?_); generalize hQ : Post Tryz.prog Tryz.f23 _ _ _ _ _ = Q; simp only [stIn, matL, matA, st00])
    simp (disch := omega) only [go_sem, Nat.reduceEqDiff, Nat.reduceBEq, ↓reduceIte, reduceCtorEq, hpos, g3, g4, a3, b3, c3, a4, b4, c4, Option.isSome_none, Option.isSome_some]
    (repeat (with_reducible refine Or.inr ?_))
    rw [← hQ]
    exact post_cell (id := 1) (x := zeroMI) (.inl rfl) rfl o_imodel (by simp [upd_app] <;> omega) (by simp [upd_app]) (by simp [upd_app]) ld_imodel (by simp [upd_app] <;> omega) (by simp [AV.pure, AV.pureL]) rfl
  | some k =>
  have r3 := w_readRat (s := m.reward) (by omega)
  have r4 := w_readRat (s := m.cost) (by omega)
  rw [e3] at r3; rw [e4] at r4
  have hb := hbad c s r k q1.1 q2.1 e3 e4
  have hsum := w_sum (m := 700) (qs := [c, s]) (by omega) (by simp)
  rw [list2_sum] at hsum
  simp only [List.length_cons, List.length_nil] at hsum
  have hcmp := w_cmp (m := 64 + (0 + 1 + 1) * (700 + 1)) (n := 64) (a := c + s) (b := 1) (by omega)
  have hone := w_whole (n := 1) (by omega) (by omega)
  rw [int_cast_1] at hone
  clear g3 a3 b3 c3 g4 a4 b4 c4 hnone hbad hnp x3 y3 z3 x4 y4 z4 hM
  by_cases n1 : r < 0
  · rw [hb (fun h => absurd n1 (Rat.not_lt.2 h.2.2.2.2.1))]
    have d1 : decide (r < 0) = true := by simpa using n1
    (refine callOk_of_wpc (W := fun _ => false) false hm' Tryz.func23 rfl (by kernel_rfl) (Nat.le_of_ble_eq_true rfl) (go_start ?_); generalize hQ : Post Tryz.prog Tryz.f23 _ _ _ _ _ = Q; simp only [stIn, matL, matA, st00])
    simp (disch := omega) only [go_sem, Nat.reduceEqDiff, Nat.reduceBEq, ↓reduceIte, reduceCtorEq, hpos, r3, r4, d1]
    (repeat (with_reducible refine Or.inr ?_))
    rw [← hQ]
    exact post_cell (id := 1) (x := zeroMI) (.inl rfl) rfl o_imodel (by simp [upd_app] <;> omega) (by simp [upd_app]) (by simp [upd_app]) ld_imodel (by simp [upd_app] <;> omega) (by simp [AV.pure, AV.pureL]) rfl
  have d1 : decide (r < 0) = false := by simpa using n1
  by_cases n2 : k < 0
  · rw [hb (fun h => absurd n2 (Rat.not_lt.2 h.2.2.2.2.2.1))]
    have d2 : decide (k < 0) = true := by simpa using n2
    (refine callOk_of_wpc (W := fun _ => false) false hm' Tryz.func23 rfl (by kernel_rfl) (Nat.le_of_ble_eq_true rfl) (go_start ?_); generalize hQ : Post Tryz.prog Tryz.f23 _ _ _ _ _ = Q; simp only [stIn, matL, matA, st00])
    simp (disch := omega) only [go_sem, Nat.reduceEqDiff, Nat.reduceBEq, ↓reduceIte, reduceCtorEq, hpos, r3, r4, d1, d2]
    (repeat (with_reducible refine Or.inr ?_))
    rw [← hQ]
    exact post_cell (id := 1) (x := zeroMI) (.inl rfl) rfl o_imodel (by simp [upd_app] <;> omega) (by simp [upd_app]) (by simp [upd_app]) ld_imodel (by simp [upd_app] <;> omega) (by simp [AV.pure, AV.pureL]) rfl
  have d2 : decide (k < 0) = false := by simpa using n2
  by_cases hr : ¬ (1 ≤ m.room ∧ m.room ≤ 8)
  · have hr' : decide (1 ≤ m.room ∧ m.room ≤ 8) = false := by simpa using hr
    rw [hb (fun h => hr ⟨h.1, h.2.1⟩)]
    (refine callOk_of_wpc (W := fun _ => false) false hm' Tryz.func23 rfl (by kernel_rfl) (Nat.le_of_ble_eq_true rfl) (go_start ?_); generalize hQ : Post Tryz.prog Tryz.f23 _ _ _ _ _ = Q; simp only [stIn, matL, matA, st00])
    simp (disch := omega) only [go_sem, Nat.reduceEqDiff, Nat.reduceBEq, ↓reduceIte, reduceCtorEq, hpos, r3, r4, d1, d2, hr']
    (repeat (with_reducible refine Or.inr ?_))
    rw [← hQ]
    exact post_cell (id := 1) (x := zeroMI) (.inl rfl) rfl o_imodel (by simp [upd_app] <;> omega) (by simp [upd_app]) (by simp [upd_app]) ld_imodel (by simp [upd_app] <;> omega) (by simp [AV.pure, AV.pureL]) rfl
  have hr' : decide (1 ≤ m.room ∧ m.room ≤ 8) = true := by simpa using hr
  have hr2 : 1 ≤ m.room ∧ m.room ≤ 8 := by simpa using hr
  have hgt := cmpR_gt (a := c + s) (b := 1)
  generalize cmpR (c + s) 1 = cc at *
  by_cases n3 : 0 < cc
  · rw [hb (fun h => absurd (hgt.1 n3) (Rat.not_lt.2 h.2.2.2.2.2.2))]
    (refine callOk_of_wpc (W := fun _ => false) false hm' Tryz.func23 rfl (by kernel_rfl) (Nat.le_of_ble_eq_true rfl) (go_start ?_); generalize hQ : Post Tryz.prog Tryz.f23 _ _ _ _ _ = Q; simp only [stIn, matL, matA, st00])
    simp (disch := omega) only [go_sem, Nat.reduceEqDiff, Nat.reduceBEq, ↓reduceIte, reduceCtorEq, hpos, r3, r4, d1, d2, hr', hsum, hone, hcmp, ratL, List.map_cons, List.map_nil]
    (repeat (with_reducible refine Or.inr ?_))
    rw [← hQ]
    exact post_cell (id := 1) (x := zeroMI) (.inl rfl) rfl o_imodel (by simp [upd_app] <;> omega) (by simp [upd_app]) (by simp [upd_app]) ld_imodel (by simp [upd_app] <;> omega) (by simp [AV.pure, AV.pureL]) rfl
  have hok : modOk m c s r k := ⟨hr2.1, hr2.2, q1.2, q2.2, Rat.not_lt.1 n1, Rat.not_lt.1 n2, Rat.not_lt.1 (fun h => n3 (hgt.2 h))⟩
  have hmod : modR m = some ⟨m.room.toNat, c, s, r, k⟩ := by simp only [modR, q1.1, q2.1, e3, e4, if_pos hok]
  have hrn : ((m.room.toNat : Nat) : Int) = m.room := Int.toNat_of_nonneg (by have := hok.1; omega)
  rw [hmod, modI_s]
  (refine callOk_of_wpc (W := fun _ => false) false hm' Tryz.func23 rfl (by kernel_rfl) (Nat.le_of_ble_eq_true rfl) (go_start ?_); generalize hQ : Post Tryz.prog Tryz.f23 _ _ _ _ _ = Q; simp only [stIn, matL, matA, st00])
  simp (maxSteps := 2000000) (disch := omega) only [go_sem, Nat.reduceEqDiff, Nat.reduceBEq, ↓reduceIte, reduceCtorEq, hpos, r3, r4, d1, d2, hr', hsum, hone, hcmp, ratL, List.map_cons, List.map_nil]
  (repeat (with_reducible refine Or.inr ?_))
  rw [← hQ]
  exact post_cell (id := 1) (x := MR.iv ⟨m.room.toNat, c, s, r, k⟩) (.inl rfl) rfl o_imodel (by simp [upd_app] <;> omega) (by simp [upd_app]) (by simp [upd_app, hrn]) ld_imodel (by simp [upd_app] <;> omega) (by simp [AV.pure, AV.pureL]) rfl
attribute [go_sem] w_positives
def mB (k : Nat) : Bool := decide (k % 3 = 0)
def marksB (k n : Nat) : List Bool := (List.range n).map fun i => mB (k + i)
theorem marksB_len (k n : Nat) : (marksB k n).length = n := by simp [marksB]
theorem marksB_succ {k n : Nat} : marksB k (n + 1) = marksB k n ++ [mB (k + n)] := by simp [marksB, List.range_succ]
theorem marksB_at {k n i : Nat} (h : i < n) : (marksB k n)[i]? = some (mB (k + i)) := by simp [marksB, h]
theorem mB_eq {k : Nat} : ((((k % 3 : Nat) : Int)) == 0) = mB k := by
  unfold mB
  by_cases h : k % 3 = 0
  · rw [h, decide_eq_true rfl]; rfl
  · rw [decide_eq_false h]; simp; omega
theorem l_eqB {bs : List Bool} (hl : bs.length ≤ 4000000) : CallOk Tryz.prog 10 [.sl 4 (boolA bs) [] false, .sl 4 (boolA bs) [] false] (.bool true) [] := by
  obtain ⟨n, hn⟩ : ∃ n, bs.length = n := ⟨_, rfl⟩
  rw [hn] at hl
  (refine callOk_of_wpc (W := fun _ => false) false hm' Tryz.func10 rfl (by kernel_rfl) (Nat.le_of_ble_eq_true rfl) (go_start ?_); generalize hQ : Post Tryz.prog Tryz.f10 _ _ _ _ _ = Q; simp only [stIn, matL, matA, st00])
  simp (disch := omega) only [go_sem, Nat.reduceEqDiff, Nat.reduceBEq, ↓reduceIte, reduceCtorEq, boolA_len, hn]
  refine k_loop (fun (i : Nat) st => st.fr 0 = .sl 4 (boolA bs) [] false ∧ st.fr 1 = .sl 4 (boolA bs) [] false ∧ st.fr 5 = .int .i64 i ∧ i ≤ n) (fun i => n - i) 0 ⟨(by simp [upd_app] <;> omega), (by simp [upd_app] <;> omega), (by simp [upd_app] <;> omega), by omega⟩ ?_
  rintro i ⟨fr, h, nx⟩ ⟨g0, g1, g5, hi⟩ J hJ
  simp only at g0 g1 g5
  by_cases hin : i < n
  · obtain ⟨x, hx⟩ := get_some (xs := bs) (i := i) (by omega)
    have e : (x == x) = true := by simp
    simp (disch := omega) only [go_sem, Nat.reduceEqDiff, Nat.reduceBEq, ↓reduceIte, reduceCtorEq, g0, g1, g5, boolA_len, boolA_at, hx, hn, e]
    exact hJ (i + 1) _ ⟨(by simp [upd_app, g0] <;> omega), (by simp [upd_app, g1] <;> omega), (by simp [upd_app] <;> omega), hin⟩ (by omega)
  · simp (disch := omega) only [go_sem, Nat.reduceEqDiff, Nat.reduceBEq, ↓reduceIte, reduceCtorEq, g0, g1, g5, boolA_len, hn]
    rw [← hQ]
    exact post_one (.inl rfl) rfl (by simp [upd_app] <;> omega) rfl
theorem markB_set {k i : Nat} {xs : List Bool} (hi : i < xs.length) : (marksB k i ++ xs.drop i).set i (mB (k + i)) = marksB k (i + 1) ++ xs.drop (i + 1) := by
 have hl := marksB_len k i
 rw [List.set_append_right _ _ (by omega), hl, Nat.sub_self, List.drop_eq_getElem_cons hi, List.set_cons_zero, marksB_succ]
 simp
theorem i_markB {fr : Nat → AV} {h : Nat → Blk} {nx id n k : Nat} {xs : List Bool} {ex gr : Bool} (hb : h id = ⟨4, boolA xs, ex, gr, true⟩) (hn : xs.length = n) (hk : k + n < 4611686018427387904) :
    InOk Tryz.prog ⟨fr, h, nx⟩ 11 [.ref id n 0 n, .int .i64 k] (.int .i64 ((k + n : Nat) : Int)) ⟨fr, upd h id ⟨4, boolA (marksB k n), ex, gr, true⟩, nx⟩ := by
  refine inOk_of_wpc (W := fun _ => false) hm' Tryz.func11 rfl (by kernel_rfl) (Nat.le_of_ble_eq_true rfl) (go_start ?_)
  generalize hQ : PostIn Tryz.prog Tryz.f11 _ _ _ = Q
  have hal : (boolA xs).length = n := by rw [boolA_len, hn]
  simp (disch := omega) only [go_sem, Nat.reduceEqDiff, Nat.reduceBEq, ↓reduceIte, reduceCtorEq, hb, hal]
  refine k_loop (fun (i : Nat) st => st.fr 0 = .ref id n 0 n ∧ st.fr 1 = .int .i64 ((k + i : Nat) : Int) ∧ st.fr 5 = .int .i64 i ∧ st.h = upd h id ⟨4, boolA (marksB k i ++ xs.drop i), ex, gr, true⟩ ∧ st.nx = nx ∧ i ≤ n) (fun i => n - i) 0
    ⟨(by simp [upd_app] <;> omega), (by simp [upd_app] <;> omega), (by simp [upd_app] <;> omega), by funext j; simp only [upd_app]; split <;> simp_all [marksB], rfl, by omega⟩ ?_
  rintro i ⟨fr1, h1, nx1⟩ ⟨g0, g1, g5, eh, enx, hi⟩ J hJ
  simp only at g0 g1 g5 eh enx
  subst eh enx
  have hal2 : (boolA (marksB k i ++ xs.drop i)).length = n := by rw [boolA_len, ← hn]; simp [marksB_len]; omega
  by_cases hin : i < n
  · have hat : (marksB k i ++ xs.drop i)[i]? = some (xs[i]'(by omega)) := by
      rw [List.getElem?_append_right (by rw [marksB_len]; omega), marksB_len, Nat.sub_self, List.drop_eq_getElem_cons (by omega)]; rfl
    have hupd : ∀ z w : Blk, upd (upd h id z) id w = upd h id w := by intro z w; funext j; simp only [upd_app]; split <;> rfl
    have hset := markB_set (k := k) (i := i) (xs := xs) (by omega)
    have hmb := mB_eq (k := k + i)
    simp (disch := omega) only [go_sem, Nat.reduceEqDiff, Nat.reduceBEq, ↓reduceIte, reduceCtorEq, g0, g1, g5, hal2, boolA_at, hat, hupd, hmb, boolA_put, hset]
    (repeat (with_reducible refine Or.inr ?_))
    exact hJ (i + 1) _ ⟨(by simp [upd_app, g0] <;> omega), by simp [upd_app]; omega, (by simp [upd_app] <;> omega), rfl, rfl, hin⟩ (by omega)
  · obtain rfl : i = n := by omega
    simp (disch := omega) only [go_sem, Nat.reduceEqDiff, Nat.reduceBEq, ↓reduceIte, reduceCtorEq, g0, g1, g5, hal2]
    rw [← hQ]
    exact postIn_one (.inl rfl) rfl (by simp [upd_app] <;> omega) (by rw [List.drop_eq_nil_of_le (by omega), List.append_nil]) rfl
theorem l_heldB {n k : Nat} (hk : k + n < 4611686018427387904) : CallOk Tryz.prog 12 [.sl 4 (boolA (marksB k n)) [] false, .int .i64 k] (.int .i64 ((k + n : Nat) : Int)) [] := by
  have hml := marksB_len k n
  (refine callOk_of_wpc (W := fun _ => false) false hm' Tryz.func12 rfl (by kernel_rfl) (Nat.le_of_ble_eq_true rfl) (go_start ?_); generalize hQ : Post Tryz.prog Tryz.f12 _ _ _ _ _ = Q; simp only [stIn, matL, matA, st00])
  simp (disch := omega) only [go_sem, Nat.reduceEqDiff, Nat.reduceBEq, ↓reduceIte, reduceCtorEq, boolA_len, hml]
  refine k_loop (fun (i : Nat) st => st.fr 0 = .sl 4 (boolA (marksB k n)) [] false ∧ st.fr 1 = .int .i64 ((k + i : Nat) : Int) ∧ st.fr 5 = .int .i64 i ∧ i ≤ n) (fun i => n - i) 0 ⟨(by simp [upd_app] <;> omega), (by simp [upd_app] <;> omega), (by simp [upd_app] <;> omega), by omega⟩ ?_
  rintro i ⟨fr, h, nx⟩ ⟨g0, g1, g5, hi⟩ J hJ
  simp only at g0 g1 g5
  by_cases hin : i < n
  · have hat := marksB_at (k := k) hin
    have hmb := mB_eq (k := k + i)
    generalize mB (k + i) = b at hat hmb
    have e : (b == b) = true := by simp
    simp (disch := omega) only [go_sem, Nat.reduceEqDiff, Nat.reduceBEq, ↓reduceIte, reduceCtorEq, g0, g1, g5, boolA_len, hml, boolA_at, hat, hmb, e]
    (repeat (with_reducible refine Or.inr ?_))
    exact hJ (i + 1) _ ⟨(by simp [upd_app, g0] <;> omega), by simp [upd_app]; omega, (by simp [upd_app] <;> omega), hin⟩ (by omega)
  · obtain rfl : i = n := by omega
    simp (disch := omega) only [go_sem, Nat.reduceEqDiff, Nat.reduceBEq, ↓reduceIte, reduceCtorEq, g0, g1, g5, boolA_len, hml]
    rw [← hQ]
    exact post_one (.inl rfl) rfl (by simp [upd_app] <;> omega) rfl
theorem cl_toB : callable Tryz.prog 14 = true := by kernel_rfl
theorem cl_eqB : callable Tryz.prog 10 = true := by kernel_rfl
def spB (n r : Nat) : List Bool := (List.range r).map fun j => decide ((n + j) % 2 = 0)
theorem spB_len {n r : Nat} : (spB n r).length = r := by simp [spB]
theorem spB_succ {n r : Nat} : spB n (r + 1) = spB n r ++ [decide ((n + r) % 2 = 0)] := by simp [spB, List.range_succ]
theorem boolA_rep {n : Nat} : List.replicate n (AV.bool false) = boolA (List.replicate n false) := by simp [boolA]
theorem boolA_append {xs ys : List Bool} : boolA xs ++ boolA ys = boolA (xs ++ ys) := by simp [boolA]
theorem boolA_drop {xs : List Bool} {n : Nat} : (boolA xs).drop n = boolA (xs.drop n) := by simp [boolA, List.map_drop]
theorem repB_set {a : List Bool} {n k : Nat} {v : Bool} (hn : a.length = n) (hk : 0 < k) : (a ++ List.replicate k false).set n v = (a ++ [v]) ++ List.replicate (k - 1) false := by
 obtain ⟨q, rfl⟩ : ∃ q, k = q + 1 := ⟨k - 1, by omega⟩
 rw [List.set_append_right _ _ (by omega), hn, Nat.sub_self, List.replicate_succ, List.set_cons_zero]; simp
theorem par_eq {k : Nat} : ((((k % 2 : Nat) : Int)) == 0) = decide (k % 2 = 0) := by
  by_cases h : k % 2 = 0
  · rw [h, decide_eq_true rfl]; rfl
  · rw [decide_eq_false h]; simp; omega
theorem l_toB (xs : List Bool) (b : Bool) (hb : b = false ∨ xs ≠ []) (hn : xs.length ≤ 1000000) : CallOk Tryz.prog 14 [.sl 4 (boolA xs) [] false, .bool b] (.own 4 (boolA xs) (boolA (spB xs.length (roomB xs.length))) true) [] := by
  obtain ⟨n, hn'⟩ : ∃ n, xs.length = n := ⟨_, rfl⟩
  rw [hn'] at hn ⊢
  obtain ⟨r, hr⟩ : ∃ r, roomB n = r := ⟨_, rfl⟩
  have hrl := room_le n
  rw [hr] at hrl ⊢
  have hroom := cw (by kernel_rfl) (by simp [AV.pure, AV.pureL]) (by simp [AV.pure, AV.pureL]) (l_room n (by omega))
  rw [hr] at hroom
  have hne : b = true → ¬ n = 0 := fun h h0 => by rcases hb with h' | h'; rw [h] at h'; cases h'; exact h' (List.length_eq_zero_iff.1 (by omega))
  (refine callOk_of_wpc (W := fun _ => false) true hm' Tryz.func14 rfl (by kernel_rfl) (Nat.le_of_ble_eq_true rfl) (go_start ?_); generalize hQ : Post Tryz.prog Tryz.f14 _ _ _ _ _ = Q; simp only [stIn, matL, matA, st00])
  obtain ⟨R, hR⟩ : ∃ R : Nat → St → Prop, R = fun i st => st.fr 0 = .sl 4 (boolA xs) [] false ∧ st.fr 5 = .ref 0 (n + r) 0 (n + r) ∧ st.fr 6 = .int .i64 i ∧ i ≤ n ∧ st.h 0 = ⟨4, boolA (xs.take i ++ List.replicate (n + r - i) false), true, true, true⟩ := ⟨_, rfl⟩
  obtain ⟨R2, hR2⟩ : ∃ R : Nat → St → Prop, R = fun i st => st.fr 0 = .sl 4 (boolA xs) [] false ∧ st.fr 5 = .ref 0 (n + r) 0 (n + r) ∧ st.fr 7 = .int .i64 ((n + i : Nat) : Int) ∧ i ≤ r ∧ st.h 0 = ⟨4, boolA ((xs ++ spB n i) ++ List.replicate (r - i) false), true, true, true⟩ := ⟨_, rfl⟩
  obtain ⟨rr, hrr⟩ : ∃ rr, spB n r = rr := ⟨_, rfl⟩
  cases b
  all_goals
    try have hn0 := hne rfl
    simp (disch := omega) only [go_sem, Nat.reduceEqDiff, Nat.reduceBEq, ↓reduceIte, reduceCtorEq, boolA_len, hn', hroom]
    (repeat (with_reducible refine Or.inr ?_))
    simp (disch := omega) only [go_sem, Nat.reduceEqDiff, Nat.reduceBEq, ↓reduceIte, reduceCtorEq, boolA_len, hn', reach, boolA_rep]
    refine k_loop R (fun i => n - i) 0 (by rw [hR]; exact ⟨(by simp [upd_app] <;> omega), (by simp [upd_app] <;> omega), (by simp [upd_app] <;> omega), by omega, by simp [upd_app]⟩) ?_
    rintro i ⟨fr, h, nx⟩ hst J hJ
    rw [hR] at hst
    obtain ⟨g0, g5, g6, hi, hm⟩ := hst
    simp only at g0 g5 g6 hm
    by_cases hin : i < n
    · obtain ⟨x, hx⟩ := get_some (xs := xs) (i := i) (by omega)
      have hal : (xs.take i ++ List.replicate (n + r - i) false).length = n + r := by simp; omega
      have hti : (xs.take i).length = i := by simp; omega
      have hset : (xs.take i ++ List.replicate (n + r - i) false).set i x = xs.take (i + 1) ++ List.replicate (n + r - (i + 1)) false := by
        rw [repB_set hti (by omega), List.take_add_one, hx]; rfl
      have hget : (xs.take i ++ List.replicate (n + r - i) false)[i]? = some false := by
        rw [List.getElem?_append_right (by omega), hti, Nat.sub_self, List.getElem?_replicate, if_pos (by omega)]
      simp (disch := omega) only [go_sem, Nat.reduceEqDiff, Nat.reduceBEq, ↓reduceIte, reduceCtorEq, g0, g5, g6, boolA_len, boolA_at, hn', hx, hm, hal, boolA_put, hset, hget]
      exact hJ (i + 1) _ (by rw [hR]; exact ⟨(by simp [upd_app, g0] <;> omega), (by simp [upd_app, g5] <;> omega), (by simp [upd_app] <;> omega), hin, by simp [upd_app]⟩) (by omega)
    · obtain rfl : i = n := by omega
      rw [List.take_of_length_le (by omega), show i + r - i = r by omega] at hm
      clear hJ hR
      simp (disch := omega) only [go_sem, Nat.reduceEqDiff, Nat.reduceBEq, ↓reduceIte, reduceCtorEq, g0, g5, g6, boolA_len, hn']
      refine k_loop R2 (fun i => r - i) 0 (by rw [hR2]; exact ⟨(by simp [upd_app, g0] <;> omega), (by simp [upd_app, g5] <;> omega), (by simp [upd_app] <;> omega), by omega, by simpa [spB] using hm⟩) ?_
      clear g0 g5 g6 hm
      rintro j ⟨fr, h, nx⟩ hst J hJ
      rw [hR2] at hst
      obtain ⟨g0, g5, g7, hj, hm⟩ := hst
      simp only at g0 g5 g7 hm
      have hsl := spB_len (n := i) (r := j)
      have hal : ((xs ++ spB i j) ++ List.replicate (r - j) false).length = i + r := by simp; omega
      by_cases hjr : j < r
      · have hti : (xs ++ spB i j).length = i + j := by simp; omega
        have hset : ((xs ++ spB i j) ++ List.replicate (r - j) false).set (i + j) (decide ((i + j) % 2 = 0)) = (xs ++ spB i (j + 1)) ++ List.replicate (r - (j + 1)) false := by
          rw [repB_set hti (by omega), spB_succ, List.append_assoc xs]; rfl
        have hget : ((xs ++ spB i j) ++ List.replicate (r - j) false)[i + j]? = some false := by
          rw [List.getElem?_append_right (by omega), hti, Nat.sub_self, List.getElem?_replicate, if_pos (by omega)]
        have hpar := par_eq (k := i + j)
        simp (disch := omega) only [go_sem, Nat.reduceEqDiff, Nat.reduceBEq, ↓reduceIte, reduceCtorEq, g0, g5, g7, boolA_len, boolA_at, hm, hal, hpar, boolA_put, hset, hget]
        (repeat (with_reducible refine Or.inr ?_))
        exact hJ (j + 1) _ (by rw [hR2]; exact ⟨(by simp [upd_app, g0] <;> omega), (by simp [upd_app, g5] <;> omega), (by simp [upd_app] <;> omega), hjr, by simp [upd_app]⟩) (by omega)
      · obtain rfl : j = r := by omega
        rw [Nat.sub_self, List.replicate_zero, List.append_nil] at hm hal
        simp (disch := omega) only [go_sem, Nat.reduceEqDiff, Nat.reduceBEq, ↓reduceIte, reduceCtorEq, g0, g5, g7, boolA_len, hm, hal, hn']
        rw [← hQ]
        exact post_own (id := 0) (n := i + j) (len := i) (.inl rfl) rfl (by simp [upd_app] <;> omega) (by simp [hm]) (by simp [hm, boolA_len]; omega) (by simp [hm]) (by simp [hm]) (by omega) (by simp [hm, boolA_take, ← hn']) (by simp [hm, boolA_drop, ← hn']) (by simp [hm]) (boolA_pure _) (boolA_pure _)
theorem l_toNilB : CallOk Tryz.prog 14 [.sl 4 (boolA []) [] false, .bool true] .nil [] := by
 (refine callOk_of_wpc (W := fun _ => false) false hm' Tryz.func14 rfl (by kernel_rfl) (Nat.le_of_ble_eq_true rfl) (go_start ?_); generalize hQ : Post Tryz.prog Tryz.f14 _ _ _ _ _ = Q; simp only [stIn, matL, matA, st00])
 simp (disch := omega) only [go_sem, Nat.reduceEqDiff, Nat.reduceBEq, ↓reduceIte, reduceCtorEq, boolA_len, List.length_nil]
 rw [← hQ]
 exact post_one (.inl rfl) rfl (by simp [upd_app] <;> omega) rfl
theorem markP_set {k i : Nat} {xs sp : List Bool} (hi : i < xs.length) : (marksB k i ++ xs.drop i ++ sp).set i (mB (k + i)) = marksB k (i + 1) ++ xs.drop (i + 1) ++ sp := by
 have hl := marksB_len k i
 rw [List.append_assoc, List.set_append_right _ _ (by omega), hl, Nat.sub_self, List.drop_eq_getElem_cons hi, List.cons_append, List.set_cons_zero, marksB_succ]
 simp
theorem i_markP {fr : Nat → AV} {h : Nat → Blk} {nx id n N k : Nat} {xs sp : List Bool} {ex gr : Bool} (hb : h id = ⟨4, boolA (xs ++ sp), ex, gr, true⟩) (hn : xs.length = n) (hN : (xs ++ sp).length = N) (hk : k + n < 4611686018427387904) (hbig : N < 4611686018427387904) :
    InOk Tryz.prog ⟨fr, h, nx⟩ 11 [.ref id N 0 n, .int .i64 k] (.int .i64 ((k + n : Nat) : Int)) ⟨fr, upd h id ⟨4, boolA (marksB k n ++ sp), ex, gr, true⟩, nx⟩ := by
  refine inOk_of_wpc (W := fun _ => false) hm' Tryz.func11 rfl (by kernel_rfl) (Nat.le_of_ble_eq_true rfl) (go_start ?_)
  generalize hQ : PostIn Tryz.prog Tryz.f11 _ _ _ = Q
  have hal : (boolA (xs ++ sp)).length = N := by rw [boolA_len, hN]
  have hnN : n ≤ N := by rw [← hN]; simp; omega
  simp (disch := omega) only [go_sem, Nat.reduceEqDiff, Nat.reduceBEq, ↓reduceIte, reduceCtorEq, hb, hal]
  refine k_loop (fun (i : Nat) st => st.fr 0 = .ref id N 0 n ∧ st.fr 1 = .int .i64 ((k + i : Nat) : Int) ∧ st.fr 5 = .int .i64 i ∧ st.h = upd h id ⟨4, boolA (marksB k i ++ xs.drop i ++ sp), ex, gr, true⟩ ∧ st.nx = nx ∧ i ≤ n) (fun i => n - i) 0
    ⟨(by simp [upd_app] <;> omega), (by simp [upd_app] <;> omega), (by simp [upd_app] <;> omega), by funext j; simp only [upd_app]; split <;> simp_all [marksB], rfl, by omega⟩ ?_
  rintro i ⟨fr1, h1, nx1⟩ ⟨g0, g1, g5, eh, enx, hi⟩ J hJ
  simp only at g0 g1 g5 eh enx
  subst eh enx
  have hal2 : (boolA (marksB k i ++ xs.drop i ++ sp)).length = N := by rw [boolA_len, ← hN]; simp [marksB_len]; omega
  by_cases hin : i < n
  · have hat : (marksB k i ++ xs.drop i ++ sp)[i]? = some (xs[i]'(by omega)) := by
      rw [List.append_assoc, List.getElem?_append_right (by rw [marksB_len]; omega), marksB_len, Nat.sub_self, List.drop_eq_getElem_cons (by omega)]; rfl
    have hupd : ∀ z w : Blk, upd (upd h id z) id w = upd h id w := by intro z w; funext j; simp only [upd_app]; split <;> rfl
    have hset := markP_set (k := k) (i := i) (xs := xs) (sp := sp) (by omega)
    have hmb := mB_eq (k := k + i)
    simp (disch := omega) only [go_sem, Nat.reduceEqDiff, Nat.reduceBEq, ↓reduceIte, reduceCtorEq, g0, g1, g5, hal2, boolA_at, hat, hupd, hmb, boolA_put, hset]
    (repeat (with_reducible refine Or.inr ?_))
    exact hJ (i + 1) _ ⟨(by simp [upd_app, g0] <;> omega), by simp [upd_app]; omega, (by simp [upd_app] <;> omega), rfl, rfl, hin⟩ (by omega)
  · obtain rfl : i = n := by omega
    simp (disch := omega) only [go_sem, Nat.reduceEqDiff, Nat.reduceBEq, ↓reduceIte, reduceCtorEq, g0, g1, g5, hal2]
    rw [← hQ]
    exact postIn_one (.inl rfl) rfl (by simp [upd_app] <;> omega) (by rw [List.drop_eq_nil_of_le (by omega), List.append_nil]) rfl
theorem snapBs {st : St} {i n N : Nat} {xs sp : List Bool} {ex gr : Bool} (h : st.h i = ⟨4, boolA (xs ++ sp), ex, gr, true⟩) (hn : xs.length = n) (hN : n + sp.length = N) : snapA st 8 (.ref i N 0 n) = some (.sl 4 (boolA xs) [] false, [i]) :=
 snap_frozen (d := 7) (by rw [h]) (by rw [h, boolA_len, ← hN]; simp; omega) (by rw [h]) (by omega) (by rw [h, List.drop_zero, boolA_take, List.take_left' hn]) (boolA_pure _)
theorem snapBB {st : St} {i n N : Nat} {x : AV} {xs sp : List Bool} {ex gr : Bool} (h : st.h i = ⟨4, boolA (xs ++ sp), ex, gr, true⟩) (hn : xs.length = n) (hN : n + sp.length = N) (hx : x.pure = true) : snapL (snapA st 8) [x, .ref i N 0 n] = some ([x, .sl 4 (boolA xs) [] false], [i]) := by
 simp [snapL, snapBs h hn hN, snapA_pure hx]
theorem snapB3 {st : St} {i j n : Nat} {bs cs : List Bool} {ex ex' gr gr' : Bool} (hi : st.h i = ⟨4, boolA bs, ex, gr, true⟩) (hj : st.h j = ⟨4, boolA cs, ex', gr', true⟩) (hn : bs.length = n) (hm : cs.length = n) :
  snapL (snapA st 8) [.ref i n 0 n, .ref j n 0 n] = some ([.sl 4 (boolA bs) [] false, .sl 4 (boolA cs) [] false], [i, j]) := by
 have h1 := snapBs (sp := []) (xs := bs) (st := st) (i := i) (N := n) (ex := ex) (gr := gr) (by rw [hi, List.append_nil]) hn rfl
 have h2 := snapBs (sp := []) (xs := cs) (st := st) (i := j) (N := n) (ex := ex') (gr := gr') (by rw [hj, List.append_nil]) hm rfl
 simp [snapL, h1, h2]
theorem i_intactB {fr : Nat → AV} {h : Nat → Blk} {nx i j n N : Nat} {xs sp : List Bool} {gr gr' : Bool} (hi : h i = ⟨4, boolA (xs ++ sp), true, gr, true⟩) (hj : h j = ⟨4, boolA (xs ++ sp), true, gr', true⟩) (hn : xs.length = n) (hN : n + roomB n = N) (hsp : sp.length = roomB n) (hl : n ≤ 1000000) :
  InOk Tryz.prog ⟨fr, h, nx⟩ 16 [.ref i N 0 n, .ref j N 0 n] (.bool true) ⟨fr, h, nx⟩ := by
 refine inOk_of_wpc (W := fun _ => false) hm' Tryz.func16 rfl (by kernel_rfl) (Nat.le_of_ble_eq_true rfl) (go_start ?_)
 generalize hQ : PostIn Tryz.prog Tryz.f16 _ _ _ = Q
 have hrl := room_le n
 have hall : (xs ++ sp).length = N := by simp; omega
 have hal : (boolA (xs ++ sp)).length = N := by rw [boolA_len, hall]
 have hroom := cw (by kernel_rfl) (by simp [AV.pure, AV.pureL]) (by simp [AV.pure, AV.pureL]) (l_room n (by omega))
 have heq := l_eqB (bs := xs ++ sp) (by omega)
 simp (disch := omega) only [go_sem, Nat.reduceEqDiff, Nat.reduceBEq, ↓reduceIte, reduceCtorEq, hi, hj, hal, hroom]
 (repeat (with_reducible refine Or.inr ?_))
 simp (disch := omega) only [go_sem, Nat.reduceEqDiff, Nat.reduceBEq, ↓reduceIte, reduceCtorEq, hi, hj, hal, hN]
 refine callW_S heq (by kernel_rfl) (snapB3 hi hj hall hall) rfl rfl ?_
 simp (disch := omega) only [go_sem, Nat.reduceEqDiff, Nat.reduceBEq, ↓reduceIte, reduceCtorEq]
 rw [← hQ]
 exact postIn_one (.inl rfl) rfl (by simp [upd_app] <;> omega) rfl rfl

theorem rI_re {m n : Nat} {q : Rat} (h1 : fits m q) (h2 : fits n q) : rI m q = rI n q := by rw [rI_eq h1, rI_eq h2]
theorem rS_re {m n : Nat} {q : Rat} (h1 : fits m q) (h2 : fits n q) : rS m q = rS n q := by rw [rS_eq h1, rS_eq h2]
theorem fits_sub {m n : Nat} {a b : Rat} (h1 : fits m a) (h2 : fits n b) : fits (m + n + 1) (a - b) := by
 rw [Rat.sub_eq_add_neg]; exact fits_add h1 (fits_neg h2)
def optT : Option (List UInt8) → AV
 | some s => .tup [.str s, .bool true]
 | none => .tup [.str [], .bool false]
theorem optT_s (s : List UInt8) : optT (some s) = .tup [.str s, .bool true] := rfl
theorem optT_n : optT none = .tup [.str [], .bool false] := rfl
def mapF (n : Nat) (f : Nat → Rat) : List Rat := (List.range n).map f
theorem mapF_succ {n : Nat} {f : Nat → Rat} : mapF (n + 1) f = mapF n f ++ [f n] := by simp [mapF, List.range_succ]
theorem mapF_len {n : Nat} {f : Nat → Rat} : (mapF n f).length = n := by simp [mapF]
theorem mapF_at {n i : Nat} {f : Nat → Rat} (h : i < n) : (mapF n f)[i]? = some (f i) := by simp [mapF, h]
theorem mapF_congr {n : Nat} {f g : Nat → Rat} (h : ∀ i, i < n → f i = g i) : mapF n f = mapF n g := List.map_congr_left fun i hi => h i (List.mem_range.1 hi)


theorem getD_of {qs : List Rat} {i : Nat} {q : Rat} (h : qs[i]? = some q) : qs.getD i 0 = q := by rw [List.getD_eq_getElem?_getD, h]; rfl
def cd (D N : Nat) (q : Rat) : Prop := D ≠ 0 ∧ ∃ p : Int, q = mkRat p D ∧ p.natAbs ≤ N
theorem cd_mono {D N N' : Nat} {q : Rat} (h : cd D N q) (hn : N ≤ N') : cd D N' q := by
 obtain ⟨h1, p, h2, h3⟩ := h
 exact ⟨h1, p, h2, Nat.le_trans h3 hn⟩
theorem cd_lift {D E N : Nat} {q : Rat} (h : cd D N q) (he : E ≠ 0) : cd (D * E) (N * E) q := by
 obtain ⟨h1, p, rfl, h3⟩ := h
 refine ⟨Nat.mul_ne_zero h1 he, p * E, (Rat.mkRat_mul_right he).symm, ?_⟩
 rw [Int.natAbs_mul, Int.natAbs_natCast]
 exact Nat.mul_le_mul_right _ h3
theorem cd_of {m : Nat} {q : Rat} (h : fits m q) : cd q.den (2 ^ m) q := ⟨q.den_nz, q.num, (Rat.mkRat_self q).symm, Nat.le_of_lt h.1⟩
theorem cd_list {m : Nat} : ∀ (qs : List Rat), (∀ q ∈ qs, fits m q) → ∃ D, D ≠ 0 ∧ D ≤ 2 ^ (m * qs.length) ∧ ∀ q ∈ qs, cd D (2 ^ (m * qs.length + m)) q
  | [], _ => ⟨1, by decide, by simp, by simp⟩
  | a :: qs, h => by
    obtain ⟨D, h1, h2, h3⟩ := cd_list qs fun q hq => h q (by simp [hq])
    have ha := h a (by simp)
    have e : m * (a :: qs).length = m + m * qs.length := by rw [List.length_cons, Nat.mul_succ]; omega
    refine ⟨a.den * D, Nat.mul_ne_zero a.den_nz h1, ?_, fun q hq => ?_⟩
    · rw [e, Nat.pow_add]
      exact Nat.mul_le_mul (Nat.le_of_lt ha.2) h2
    · rw [e]
      rcases List.mem_cons.1 hq with rfl | hq
      · refine cd_mono (cd_lift (cd_of ha) h1) ?_
        rw [show m + m * qs.length + m = m + (m * qs.length + m) by omega, Nat.pow_add]
        exact Nat.mul_le_mul (Nat.le_refl _) (Nat.le_trans h2 (Nat.pow_le_pow_right (by decide) (by omega)))
      · have := cd_lift (h3 q hq) (E := a.den) a.den_nz
        rw [Nat.mul_comm] at this
        refine cd_mono this ?_
        rw [show m + m * qs.length + m = (m * qs.length + m) + m by omega, Nat.pow_add 2 (m * qs.length + m) m]
        exact Nat.mul_le_mul (Nat.le_refl _) (Nat.le_of_lt ha.2)
theorem mapF_set {n p : Nat} {f : Nat → Rat} {v : Rat} : (mapF n f).set p v = mapF n (fun k => if k = p then v else f k) := by
  apply List.ext_getElem
  · simp [mapF]
  · intro i h1 h2
    simp only [mapF, List.getElem_set, List.getElem_map, List.getElem_range]
    by_cases e : p = i
    · rw [if_pos e, if_pos e.symm]
    · rw [if_neg e, if_neg (fun h => e h.symm)]
theorem zero_fits (m : Nat) (hm : 0 < m) : fits m 0 := fits_int (n := 0) (by simpa using Nat.pow_pos (by decide)) hm
def betB (x : MR) (v : List Rat) (n : Nat) : Bool := decide (v.getD n 0 ≤ x.reward + v.getD (n + 1) 0)
def stayR (x : MR) : Rat := 1 - x.come - x.serve
def betL (x : MR) (v : List Rat) : List Bool := (List.range x.room).map (betB x v)
theorem betL_len {x : MR} {v : List Rat} : (betL x v).length = x.room := by simp [betL]
def optB (ex : Bool) : Option (List Bool) → AV
 | some bs => .tup [.own 4 (boolA bs) [] ex, .bool true]
 | none => .tup [.nil, .bool false]
theorem boolA_solid : ∀ bs : List Bool, AV.solidL (boolA bs) = true
 | [] => rfl
 | b :: bs => by rw [boolA, List.map_cons, AV.solidL]; simpa [AV.solid, boolA] using boolA_solid bs
theorem optB_solid (ex : Bool) (o : Option (List Bool)) : (optB ex o).solid = true := by
 cases o with
 | none => rfl
 | some bs => simp [optB, AV.solid, AV.solidL, boolA_solid]
theorem t_rows : elT Tryz.prog 101 = some 59 := by kernel_rfl
theorem o_rats : okT Tryz.prog 59 = true := by kernel_rfl
theorem g_rats : aggT Tryz.prog 59 = false := by kernel_rfl
theorem in_rats : (Tryz.prog.info? 59).isSome = true := by kernel_rfl
theorem s_rats : szT Tryz.prog 59 = 1 := by kernel_rfl
theorem zk_rats : zokT Tryz.prog 59 = true := by kernel_rfl
theorem u_rats : u32T Tryz.prog 59 = false := by kernel_rfl
attribute [go_sem] t_rows o_rats g_rats in_rats s_rats zk_rats u_rats
theorem z_rats : zeroA Tryz.prog 59 = some .nil := by kernel_rfl
theorem el_ratsN : AV.el Tryz.prog 59 .nil = true := by simp [AV.el, s_rats, AV.cells, AV.one]
theorem el_ratsR {a b c d : Nat} : AV.el Tryz.prog 59 (.ref a b c d) = true := by simp [AV.el, s_rats, AV.cells, AV.one]
attribute [go_sem] z_rats el_ratsN el_ratsR
theorem t_rowsS : elT Tryz.prog 91 = some 48 := by kernel_rfl
theorem o_ratsS : okT Tryz.prog 48 = true := by kernel_rfl
theorem g_ratsS : aggT Tryz.prog 48 = false := by kernel_rfl
theorem in_ratsS : (Tryz.prog.info? 48).isSome = true := by kernel_rfl
theorem s_ratsS : szT Tryz.prog 48 = 1 := by kernel_rfl
theorem zk_ratsS : zokT Tryz.prog 48 = true := by kernel_rfl
theorem u_ratsS : u32T Tryz.prog 48 = false := by kernel_rfl
attribute [go_sem] t_rowsS o_ratsS g_ratsS in_ratsS s_ratsS zk_ratsS u_ratsS
theorem z_ratsS : zeroA Tryz.prog 48 = some .nil := by kernel_rfl
theorem el_ratsRS {a b c d : Nat} : AV.el Tryz.prog 48 (.ref a b c d) = true := by simp [AV.el, s_ratsS, AV.cells, AV.one]
attribute [go_sem] z_ratsS el_ratsRS
theorem b_rats : byT Tryz.prog 59 = 24 := by kernel_rfl
theorem o_rows : okT Tryz.prog 101 = true := by kernel_rfl
theorem g_rows : aggT Tryz.prog 101 = false := by kernel_rfl
theorem in_rows : (Tryz.prog.info? 101).isSome = true := by kernel_rfl
theorem s_rows : szT Tryz.prog 101 = 1 := by kernel_rfl
theorem zk_rows : zokT Tryz.prog 101 = true := by kernel_rfl
theorem u_rows : u32T Tryz.prog 101 = false := by kernel_rfl
theorem z_rows : zeroA Tryz.prog 101 = some .nil := by kernel_rfl
attribute [go_sem] b_rats o_rows g_rows in_rows s_rows zk_rows u_rows z_rows
theorem o_rowsS : okT Tryz.prog 91 = true := by kernel_rfl
theorem g_rowsS : aggT Tryz.prog 91 = false := by kernel_rfl
theorem in_rowsS : (Tryz.prog.info? 91).isSome = true := by kernel_rfl
theorem s_rowsS : szT Tryz.prog 91 = 1 := by kernel_rfl
theorem zk_rowsS : zokT Tryz.prog 91 = true := by kernel_rfl
theorem u_rowsS : u32T Tryz.prog 91 = false := by kernel_rfl
theorem z_rowsS : zeroA Tryz.prog 91 = some .nil := by kernel_rfl
theorem el_rowsRS {a b c d : Nat} : AV.el Tryz.prog 91 (.ref a b c d) = true := by simp [AV.el, s_rowsS, AV.cells, AV.one]
attribute [go_sem] o_rowsS g_rowsS in_rowsS s_rowsS zk_rowsS u_rowsS z_rowsS el_rowsRS
theorem b_ratsS : byT Tryz.prog 48 = 24 := by kernel_rfl
attribute [go_sem] b_ratsS

mutual
theorem rep_cut2 {P : Program} {E E' : Env} {h : Nat → Blk} {nx : Nat} (hE : E.nx = nx) (hh : ∀ i, i < nx → h i = E'.h i ∨ (h i).lv = false ∧ (h i).xs.length = (E.h i).xs.length) : ∀ (x : AV) (v0 v : Value), rep P E x v0 → rep P E' x v → rep P ⟨E'.w, E'.I, E'.m, h, nx⟩ x v
  | .undef, _, _, _, _ => by simp [rep]
  | .bool b, _, v, _, k => by simpa [rep] using k
  | .int i n, _, v, _, k => by simpa [rep] using k
  | .str s, _, v, _, k => by simpa [rep] using k
  | .nil, _, v, _, k => by simpa [rep] using k
  | .sl t xs sp ex, v0, v, k0, k => by
    simp only [rep] at k0 k ⊢
    obtain ⟨_, _, _, _, _, _, ws, us', m4, m5, _⟩ := k0
    obtain ⟨a, cap, h1, h2, h3, h7, vs, us, h4, h5, h6⟩ := k
    exact ⟨a, cap, h1, h2, h3, h7, vs, us, repL_cut2 hE hh xs ws vs m4 h4, repL_cut2 hE hh sp us' us m5 h5, h6⟩
  | .ref id n off len, v0, v, k0, k => by
    simp only [rep] at k0 k ⊢
    have hlt : id < nx := by rw [← hE]; exact k0.1
    obtain ⟨_, h2, ad, kk, hv, h3⟩ := k
    rcases hh id hlt with e | ⟨e1, e2⟩
    · rw [e]; exact ⟨hlt, h2, ad, kk, hv, h3⟩
    · exact ⟨hlt, by rw [e2]; exact k0.2.1, ad, kk, hv, fun hl => by rw [e1] at hl; cases hl⟩
  | .own .., _, _, _, k => by simp [rep] at k
  | .ptr id n i j, v0, v, k0, k => by
    simp only [rep] at k0 k ⊢
    have hlt : id < nx := by rw [← hE]; exact k0.1
    obtain ⟨_, h2, ad, hv, h3⟩ := k
    rcases hh id hlt with e | ⟨e1, e2⟩
    · rw [e]; exact ⟨hlt, h2, ad, hv, h3⟩
    · exact ⟨hlt, by rw [e2]; exact k0.2.1, ad, hv, fun hl => by rw [e1] at hl; cases hl⟩
  | .cptr t x j, v0, v, k0, k => by
    simp only [rep] at k0 k ⊢
    obtain ⟨_, _, _, _, u0, _, _, _, m4, _⟩ := k0
    obtain ⟨b, off, c, fz, u, h1, h2, h3, h4, h6, h5⟩ := k
    exact ⟨b, off, c, fz, u, h1, h2, h3, rep_cut2 hE hh x u0 u m4 h4, h6, h5⟩
  | .fn f first cap, v0, v, k0, k => by
    simp only [rep] at k0 k ⊢
    obtain ⟨ws, us', _, m2, m3⟩ := k0
    obtain ⟨vs, us, h1, h2, h3⟩ := k
    exact ⟨vs, us, h1, repL_cut2 hE hh first ws vs m2 h2, repL_cut2 hE hh cap us' us m3 h3⟩
  | .agg cs, v0, v, k0, k => by
    simp only [rep] at k0 k ⊢
    obtain ⟨ws, _, m2⟩ := k0
    obtain ⟨vs, h1, h2⟩ := k
    exact ⟨vs, h1, repL_cut2 hE hh cs ws vs m2 h2⟩
  | .tup xs, v0, v, k0, k => by
    simp only [rep] at k0 k ⊢
    obtain ⟨ws, _, m2⟩ := k0
    obtain ⟨vs, h1, h2⟩ := k
    exact ⟨vs, h1, repL_cut2 hE hh xs ws vs m2 h2⟩
theorem repL_cut2 {P : Program} {E E' : Env} {h : Nat → Blk} {nx : Nat} (hE : E.nx = nx) (hh : ∀ i, i < nx → h i = E'.h i ∨ (h i).lv = false ∧ (h i).xs.length = (E.h i).xs.length) : ∀ (xs : List AV) (vs0 vs : List Value), repL P E xs vs0 → repL P E' xs vs → repL P ⟨E'.w, E'.I, E'.m, h, nx⟩ xs vs
  | [], _, vs, _, k => by simpa [repL] using k
  | x :: xs, vs0, vs, k0, k => by
    simp only [repL] at k0 k ⊢
    obtain ⟨v0, us0, _, m2, m3⟩ := k0
    obtain ⟨v, us, h1, h2, h3⟩ := k
    exact ⟨v, us, h1, rep_cut2 hE hh x v0 v m2 h2, repL_cut2 hE hh xs us0 us m3 h3⟩
end
def cutH (h h' : Nat → Blk) (nx : Nat) (eat : List Nat) : Nat → Blk := fun i => if i ∈ eat then { h i with lv := false } else if i < nx then h' i else h i
def PostE (P : Program) (fn : Func) (x : AV) (h' : Nat → Blk) (nx : Nat) (eat : List Nat) (e : Ex) (st : St) : Prop :=
 (match e with | .exit _ => False | _ => True) ∧ resV P st fn.results.toList = some x ∧ (∀ i, i < nx → i ∉ eat → st.h i = h' i) ∧ nx ≤ st.nx
def Stays (P : Program) (x : AV) (h2 : Nat → Blk) (nx : Nat) (eat : List Nat) : Prop :=
 ∀ (E' : Env) (v : Value), (∀ i, i < nx → i ∉ eat → h2 i = E'.h i) → rep P E' x v → rep P ⟨E'.w, E'.I, E'.m, h2, nx⟩ x v
theorem stays_pure {P : Program} {x : AV} {h2 : Nat → Blk} {nx : Nat} {eat : List Nat} (hp : x.pure = true) : Stays P x h2 nx eat := fun E' v _ hr =>
 (show repL P ⟨E'.w, E'.I, E'.m, h2, nx⟩ [x] [v] from repL_pure (E := E') (E' := ⟨E'.w, E'.I, E'.m, h2, nx⟩) (fun b hb => ⟨hb, rfl⟩) [x] [v] (by simp [AV.pureL, hp]) (by simp [repL, hr])) |> fun k => by simpa [repL] using k
theorem stays_refB {P : Program} {r n l : Nat} {b : Bool} {h2 : Nat → Blk} {nx : Nat} {eat : List Nat} (hr : r < nx) (he : r ∉ eat) : Stays P (.tup [.ref r n 0 l, .bool b]) h2 nx eat := fun E' v hh hv => by
  have e := hh r hr he
  simp only [rep, repL] at hv ⊢
  obtain ⟨vs, rfl, u, us, rfl, ⟨h1, h2', h3⟩, k⟩ := hv
  refine ⟨_, rfl, u, us, rfl, ⟨hr, ?_, ?_⟩, k⟩
  · simp only [e]; exact h2'
  · simpa only [e] using h3
theorem cut_core {P : Program} {E E' : Env} {h h' : Nat → Blk} {nx : Nat} {eat fz : List Nat} (hE : Ok P E) (hE' : Ok P E') (hle : E.Le E') (hgo : Goes P E E') (hh : h = E.h) (hnx : nx = E.nx) (h1 : ∀ i, i < nx → i ∉ eat → E'.h i = h' i)
    (hh' : ∀ i, i < nx → i ∉ eat → h' i = h i ∨ AV.pureL (h' i).xs = true) (hfz : ∀ i ∈ fz, nx ≤ i) :
    E.Le ⟨E'.w, (E'.shut fz).I, E'.m, cutH h h' nx eat, nx⟩ ∧ Ok P ⟨E'.w, (E'.shut fz).I, E'.m, cutH h h' nx eat, nx⟩ ∧ Goes P E ⟨E'.w, (E'.shut fz).I, E'.m, cutH h h' nx eat, nx⟩ ∧
      (∀ i, i < nx → i ∉ eat → cutH h h' nx eat i = E'.h i) ∧ ∀ i, (cutH h h' nx eat i).lv = true → i < nx := by
  obtain ⟨H, hH⟩ : ∃ H, cutH h h' nx eat = H := ⟨_, rfl⟩
  rw [hH]
  have hsame : ∀ i, i < nx → i ∉ eat → H i = E'.h i := fun i hi he => by rw [← hH, cutH, if_neg he, if_pos hi]; exact (h1 i hi he).symm
  have hate : ∀ i, i ∈ eat → (H i).lv = false ∧ (H i).xs = (E.h i).xs ∧ (H i).gr = (E.h i).gr := fun i hi => by rw [← hH, cutH, if_pos hi, hh]; exact ⟨rfl, rfl, rfl⟩
  have hdead : ∀ i, nx ≤ i → (H i).lv = false := fun i hi => by
    by_cases he : i ∈ eat
    · exact (hate i he).1
    · rw [← hH, cutH, if_neg he, if_neg (by omega)]
      cases hl : (h i).lv with
      | false => rfl
      | true => have := (hE.blk i (by rw [← hh]; exact hl)).lt; omega
  have hcut : ∀ i, i < nx → H i = E'.h i ∨ (H i).lv = false ∧ (H i).xs.length = (E.h i).xs.length := fun i hi => by
    by_cases he : i ∈ eat
    · exact .inr ⟨(hate i he).1, by rw [(hate i he).2.1]⟩
    · exact .inl (hsame i hi he)
  have hlt : ∀ i, (H i).lv = true → i < nx := fun i hl => by
    rcases Nat.lt_or_ge i nx with h | h
    · exact h
    · rw [hdead i h] at hl; cases hl
  have hlive : ∀ i, (H i).lv = true → i < nx ∧ i ∉ eat ∧ H i = E'.h i := fun i hl => by
    have h2 : i ∉ eat := fun he => by rw [(hate i he).1] at hl; cases hl
    exact ⟨hlt i hl, h2, hsame i (hlt i hl) h2⟩
  have hnew : ∀ i ∈ fz, (E'.h i).lv = true → E.w.heap.size ≤ (E'.m i).b := fun i hi hl => by
    rcases hgo.locs i hl with ⟨a, _⟩ | ⟨a, _⟩
    · have := (hE.blk i a).lt
      have := hfz i hi
      omega
    · exact a
  refine ⟨⟨by rw [hnx]; exact Nat.le_refl _, fun b hb => ⟨.inl (hle.imm b hb).1, (hle.imm b hb).2⟩, fun id hid => ?_, fun id hid n hn k1 k2 => ?_⟩, ⟨fun id hl => ?_, fun i j hi hj e => ?_, fun b hb => ?_, ?_⟩,
    ⟨hgo.os, hgo.tape, hgo.output, hgo.size, hgo.keep, hgo.part, fun id hl => ?_, fun b hb => ?_, by rw [hnx]; exact Nat.le_refl _, fun id hid => ?_⟩, hsame, hlt⟩
  · by_cases he : id ∈ eat
    · simp only [(hate id he).2.1]; exact Nat.le_refl _
    · simp only [hsame id (by omega) he]; exact hle.len id hid
  · simp only at k1 k2 ⊢
    obtain ⟨a1, a2, a3⟩ := hlive id k1
    rw [a3] at k1 k2 ⊢
    exact hle.prv id hid n hn k1 k2
  · simp only at hl
    obtain ⟨a1, a2, a3⟩ := hlive id hl
    have hl' : (E'.h id).lv = true := by rw [← a3]; exact hl
    have hB := hE'.blk id hl'
    obtain ⟨c, ws, g1, g2, g3, g4⟩ := hB.at_
    refine ⟨a1, by simp only [a3]; exact hB.gr, by simp only [a3]; exact hB.ex, by simp only [a3]; exact hB.le, by simp only [a3]; exact hB.cl, ?_, c, ws, by simp only [a3]; exact g1, ?_, by simp only [a3]; exact g3, by simp only [a3]; exact g4⟩
    · rintro (hd | ⟨i, hi, k1, k2⟩)
      · exact hB.dark hd
      · have := hE'.inj i id k1 hl' k2
        have := hfz i hi
        omega
    simp only [a3]
    rcases hh' id a1 a2 with e | e
    · have e1 : E'.h id = E.h id := by rw [← a3, ← hH, cutH, if_neg a2, if_pos a1, e, hh]
      have hlE : (E.h id).lv = true := by rw [← e1]; exact hl'
      obtain ⟨c0, ws0, _, g02, _, _⟩ := (hE.blk id hlE).at_
      rw [e1] at g2 ⊢
      exact repL_cut2 (E' := E'.shut fz) hnx.symm hcut _ ws0 ws g02 (repL_mono (E := E') (E' := E'.shut fz) ⟨Nat.le_refl _, fun b hb => ⟨.inl hb, rfl⟩, fun _ _ => Nat.le_refl _, fun _ _ _ _ h1 h2 => ⟨h1, h2, rfl, rfl⟩⟩ _ _ g2)
    · have hp : AV.pureL (E'.h id).xs = true := by rw [← a3, ← hH, cutH, if_neg a2, if_pos a1]; exact e
      exact repL_pure (E := E') (E' := ⟨E'.w, (E'.shut fz).I, E'.m, H, nx⟩) (fun b hb => ⟨.inl hb, rfl⟩) _ _ hp g2
  · simp only at hi hj e
    obtain ⟨_, _, a3⟩ := hlive i hi
    obtain ⟨_, _, b3⟩ := hlive j hj
    exact hE'.inj i j (by rw [← a3]; exact hi) (by rw [← b3]; exact hj) e
  · rcases hb with hb | ⟨i, hi, k1, k2⟩
    · exact hE'.imm b hb
    · obtain ⟨c, ws, g1, _⟩ := (hE'.blk i k1).at_
      rw [← k2]; exact lt_of_heap g1
  · exact hE'.tab.step fun b hb => ⟨.inl hb, rfl⟩
  · simp only at hl ⊢
    obtain ⟨_, _, a3⟩ := hlive id hl
    have := hgo.locs id (by rw [← a3]; exact hl)
    simpa only [Env.lim, a3] using this
  · rcases hb with hb | ⟨i, hi, k1, k2⟩
    · exact hgo.dark b hb
    · exact .inr (.inl (by rw [← k2]; exact hnew i hi k1))
  · by_cases he : id ∈ eat
    · exact (hate id he).2.2
    · simp only [hsame id (by omega) he]; exact hgo.grs id hid
theorem rel_in {P : Program} {E : Env} {args : List AV} {h : Nat → Blk} {nx nt : Nat} {vs : List Value} (hE : Ok P E) (hh : h = E.h) (hnx : nx = E.nx) (has : repL P E args vs) :
    Rel P E ⟨fun i => args.getD i .undef, h, nx⟩ { tmps := vs.toArray ++ Array.replicate (nt - vs.toArray.size) undef, defers := [] } := by
  have hargl : args.length = vs.length := (repL_length has).symm
  refine ⟨hE, hh, hnx, fun t => ?_⟩
  by_cases ht : t < args.length
  · have h1 : args[t]? = some (args[t]'(by omega)) := List.getElem?_eq_getElem (by omega)
    obtain ⟨v, hv, hr⟩ := repL_get has t _ h1
    simp only [List.getD_eq_getElem?_getD, h1]
    rw [Array.getD_eq_getD_getElem?, Array.getElem?_append_left (by simp; omega)]
    have : vs.toArray[t]? = some v := by simpa using hv
    rw [this]; exact hr
  · simp only [List.getD_eq_getElem?_getD]
    rw [List.getElem?_eq_none (by omega)]
    simp [rep]
section
variable {P : Program} {W : WP} {f : FuncId} {fn : Func} {c : Code} {args : List AV} {x : AV} {fr : Nat → AV} {h h' : Nat → Blk} {nx : Nat} {eat : List Nat}
theorem inOkE_of_wpcD (hm : P.follows .mixedOrders = true) (hf : P.funcs[f]? = some fn) (hb : fn.body = some c)
  (hok : codeOk W fn.ntmps c = true) (hn : args.length ≤ fn.ntmps) (hx : Stays P x (cutH h h' nx eat) nx eat) (hh' : ∀ i, i < nx → i ∉ eat → h' i = h i ∨ AV.pureL (h' i).xs = true)
  (hw : wpc P W c ⟨fun i => args.getD i .undef, h, nx⟩ (PostE P fn x h' nx eat)) : InOk P ⟨fr, h, nx⟩ f args x ⟨fr, cutH h h' nx eat, nx⟩ := by
 refine ⟨rfl, fun E vs hE hh hnx has => calls_of_wp hf hb ?_⟩
 simp only at hh hnx
 have hsize : (vs.toArray ++ Array.replicate (fn.ntmps - vs.toArray.size) undef).size = fn.ntmps := by have := repL_length has; simp; omega
 refine wp_mono (wpc_sound hm c hok _ _ _ E hw (rel_in hE hh hnx has) hsize rfl) fun e a' w' hq => ?_
 obtain ⟨y, st', E', rfl, ⟨hy, hv, h1, h2⟩, rfl, hR', hn', hd', hle, hgo⟩ := hq
 obtain ⟨u, hres, hru⟩ := resV_sound hR' hv
 obtain ⟨k1, k2, k3, k4, _⟩ := cut_core (eat := eat) (fz := []) (h' := h') hE hR'.ok hle hgo hh hnx (fun i hi he => by rw [← hR'.h]; exact h1 i hi he) hh' (by simp)
 have hru2 : rep P ⟨E'.w, (E'.shut []).I, E'.m, cutH h h' nx eat, nx⟩ x u := by
  have := hx E' u k4 hru
  have e : (E'.shut []).I = E'.I := by funext b; simp [Env.shut]
  rw [e]; exact this
 have hend : bodyPost P fn (fun e w' => ∃ v E', e = .returned v ∧ E'.w = w' ∧ E'.h = cutH h h' nx eat ∧ E'.nx = nx ∧ E.Le E' ∧ Ok P E' ∧ Goes P E E' ∧ rep P E' x v) .ret a' E'.w :=
  ⟨hd', u, hres, u, ⟨E'.w, (E'.shut []).I, E'.m, cutH h h' nx eat, nx⟩, rfl, rfl, rfl, rfl, k1, k2, k3, hru2⟩
 cases y with
 | normal => exact hend
 | ret => exact hend
 | exit i => exact hy.elim
def PostS (P : Program) (fn : Func) (x : AV) (h' : Nat → Blk) (nx : Nat) (eat : List Nat) (e : Ex) (st : St) : Prop :=
 (match e with | .exit _ => False | _ => True) ∧ (∃ v ids, resV P st fn.results.toList = some v ∧ snapA st 8 v = some (x, ids) ∧ ∀ i ∈ ids, nx ≤ i) ∧ (∀ i, i < nx → i ∉ eat → st.h i = h' i)
theorem inOkS_of_wpcD (hm : P.follows .mixedOrders = true) (hf : P.funcs[f]? = some fn) (hb : fn.body = some c)
  (hok : codeOk W fn.ntmps c = true) (hn : args.length ≤ fn.ntmps) (hh' : ∀ i, i < nx → i ∉ eat → h' i = h i ∨ AV.pureL (h' i).xs = true)
  (hw : wpc P W c ⟨fun i => args.getD i .undef, h, nx⟩ (PostS P fn x h' nx eat)) : InOk P ⟨fr, h, nx⟩ f args x ⟨fr, cutH h h' nx eat, nx⟩ := by
 refine ⟨rfl, fun E vs hE hh hnx has => calls_of_wp hf hb ?_⟩
 simp only at hh hnx
 have hsize : (vs.toArray ++ Array.replicate (fn.ntmps - vs.toArray.size) undef).size = fn.ntmps := by have := repL_length has; simp; omega
 refine wp_mono (wpc_sound hm c hok _ _ _ E hw (rel_in hE hh hnx has) hsize rfl) fun e a' w' hq => ?_
 obtain ⟨y, st', E', rfl, ⟨hy, ⟨v, ids, hv, hsn, hids⟩, h1⟩, rfl, hR', hn', hd', hle, hgo⟩ := hq
 obtain ⟨u, hres, hru⟩ := resV_sound hR' hv
 obtain ⟨s1, s2, s3⟩ := snapA_sound hR'.ok hR'.h 8 v x ids u hsn hru
 obtain ⟨k1, k2, k3, k4, _⟩ := cut_core (eat := eat) (fz := ids) (h' := h') hE hR'.ok hle hgo hh hnx (fun i hi he => by rw [← hR'.h]; exact h1 i hi he) hh' hids
 have hru2 : rep P ⟨E'.w, (E'.shut ids).I, E'.m, cutH h h' nx eat, nx⟩ x u :=
  rep_pure (E := E'.shut ids) (E' := ⟨E'.w, (E'.shut ids).I, E'.m, cutH h h' nx eat, nx⟩) (fun b hb => ⟨hb, rfl⟩) x u s1 s2
 have hend : bodyPost P fn (fun e w' => ∃ v E', e = .returned v ∧ E'.w = w' ∧ E'.h = cutH h h' nx eat ∧ E'.nx = nx ∧ E.Le E' ∧ Ok P E' ∧ Goes P E E' ∧ rep P E' x v) .ret a' E'.w :=
  ⟨hd', u, hres, u, ⟨E'.w, (E'.shut ids).I, E'.m, cutH h h' nx eat, nx⟩, rfl, rfl, rfl, rfl, k1, k2, k3, hru2⟩
 cases y with
 | normal => exact hend
 | ret => exact hend
 | exit i => exact hy.elim
def PostN (P : Program) (fn : Func) (r : AV) (h' : Nat → Blk) (nx : Nat) (eat : List Nat) (e : Ex) (st : St) : Prop :=
 (match e with | .exit _ => False | _ => True) ∧ (∃ v ids, resV P st fn.results.toList = some v ∧ ownA st 8 v = some (r, ids) ∧ ids.Nodup ∧ ∀ i ∈ ids, nx ≤ i) ∧ (∀ i, i < nx → i ∉ eat → st.h i = h' i)
theorem inOkN_of_wpcD {r : AV} (hm : P.follows .mixedOrders = true) (hf : P.funcs[f]? = some fn) (hb : fn.body = some c)
    (hok : codeOk W fn.ntmps c = true) (hn : args.length ≤ fn.ntmps) (hh' : ∀ i, i < nx → i ∉ eat → h' i = h i ∨ AV.pureL (h' i).xs = true)
    (hw : wpc P W c ⟨fun i => args.getD i .undef, h, nx⟩ (PostN P fn r h' nx eat)) : InOk P ⟨fr, h, nx⟩ f args (matA true r ⟨fr, cutH h h' nx eat, nx⟩).1 (matA true r ⟨fr, cutH h h' nx eat, nx⟩).2 := by
  refine ⟨matA_fr true r _, fun E vs hE hh hnx has => calls_of_wp hf hb ?_⟩
  simp only at hh hnx
  have hsize : (vs.toArray ++ Array.replicate (fn.ntmps - vs.toArray.size) undef).size = fn.ntmps := by have := repL_length has; simp; omega
  refine wp_mono (wpc_sound hm c hok _ _ _ E hw (rel_in hE hh hnx has) hsize rfl) fun e a' w' hq => ?_
  obtain ⟨y, st', E', rfl, ⟨hy, ⟨v, ids, hv, how, hnd, hids⟩, h1⟩, rfl, hR', hn', hd', hle, hgo⟩ := hq
  obtain ⟨u, hres, hru⟩ := resV_sound hR' hv
  obtain ⟨L, s1, s2, s3, s4⟩ := ownA_sound hR'.ok hR'.h 8 v r ids u how hru
  obtain ⟨k1, k2, k3, k4, k5⟩ := cut_core (eat := eat) (fz := []) (h' := h') hE hR'.ok hle hgo hh hnx (fun i hi he => by rw [← hR'.h]; exact h1 i hi he) hh' (by simp)
  have eI : (E'.shut []).I = E'.I := by funext b; simp [Env.shut]
  rw [eI] at k1 k2 k3
  have hnew : ∀ o ∈ L, E.w.heap.size ≤ o.l.b ∧ o.l.base = 0 := fun o ho => by
    obtain ⟨a, ha, e1, _, _⟩ := s4 o ho
    obtain ⟨b1, b2⟩ := s2 a ha
    rw [e1]
    refine ⟨?_, (hR'.ok.blk a b1).gr b2⟩
    rcases hgo.locs a b1 with ⟨c1, _⟩ | ⟨c1, _⟩
    · have := (hE.blk a c1).lt
      have := hids a ha
      omega
    · exact c1
  have hsep : Sep ⟨E'.w, E'.I, E'.m, cutH h h' nx eat, nx⟩ L := by
    refine ⟨?_, fun o ho id hid e => ?_⟩
    · have e1 : L.map (·.l.b) = ids.map fun a => (E'.m a).b := by
        have := congrArg (List.map Loc.b) s3
        simpa [List.map_map, Function.comp_def] using this
      rw [e1]
      exact List.pairwise_map.2 (List.Pairwise.imp_of_mem (fun ha hb hne e => hne (hR'.ok.inj _ _ (s2 _ ha).1 (s2 _ hb).1 e)) hnd)
    · obtain ⟨a, ha, e1, _, _⟩ := s4 o ho
      have hlt := k5 id hid
      simp only at hid e
      have he : id ∉ eat := fun he => by rw [cutH, if_pos he] at hid; cases hid
      have hl : (E'.h id).lv = true := by rw [← k4 id hlt he]; exact hid
      have := hR'.ok.inj id a hl (s2 a ha).1 (by rw [← e1]; exact e)
      have := hids a ha
      omega
  obtain ⟨m', M, r1, f1, _⟩ := matA_sound (g := true) r u L ⟨fr, cutH h h' nx eat, nx⟩ ⟨E'.w, E'.I, E'.m, cutH h h' nx eat, nx⟩ k2 rfl rfl (ownR_move (E := E') (E' := ⟨E'.w, E'.I, E'.m, cutH h h' nx eat, nx⟩) rfl rfl _ _ _ s1) hsep (fun _ o ho => (hnew o ho).2)
  have hgo2 := Goes.mat k2 k3 M (fun o ho => (hnew o ho).1) hnx
  have hend : bodyPost P fn (fun e w' => ∃ v E', e = .returned v ∧ E'.w = w' ∧ E'.h = (matA true r ⟨fr, cutH h h' nx eat, nx⟩).2.h ∧ E'.nx = (matA true r ⟨fr, cutH h h' nx eat, nx⟩).2.nx ∧ E.Le E' ∧ Ok P E' ∧ Goes P E E' ∧ rep P E' (matA true r ⟨fr, cutH h h' nx eat, nx⟩).1 v) .ret a' E'.w :=
    ⟨hd', u, hres, u, ⟨E'.w, E'.I, m', (matA true r ⟨fr, cutH h h' nx eat, nx⟩).2.h, (matA true r ⟨fr, cutH h h' nx eat, nx⟩).2.nx⟩, rfl, rfl, rfl, rfl, k1.trans M.le, M.ok, hgo2, r1⟩
  cases y with
  | normal => exact hend
  | ret => exact hend
  | exit i => exact hy.elim
end
theorem cutH_self {h : Nat → Blk} {nx : Nat} : cutH h h nx [] = h := by funext i; simp [cutH]
theorem postE_two {P : Program} {fn : Func} {t u : Tmp} {x y : AV} {st : St} {e : Ex} {h' : Nat → Blk} {nx : Nat} {eat : List Nat} (he : e = .ret ∨ e = .normal) (hr : fn.results.toList = [.tmp t, .tmp u]) (hv : st.fr t = x) (hw : st.fr u = y) (h1 : ∀ i, i < nx → i ∉ eat → st.h i = h' i) (h2 : nx ≤ st.nx) : PostE P fn (.tup [x, y]) h' nx eat e st :=
 ⟨by rcases he with rfl | rfl <;> trivial, by rw [hr]; simp [resV, resL, resA, hv, hw], h1, h2⟩
/-! ### Rows: lists of lists in memory of one's own -/
def refsL (rid : Nat → Nat) (r c : Nat) : List AV := (List.range r).map fun i => AV.ref (rid i) c 0 c
theorem refsL_len {rid : Nat → Nat} {r c : Nat} : (refsL rid r c).length = r := by simp [refsL]
theorem refsL_at {rid : Nat → Nat} {r c i : Nat} (h : i < r) : (refsL rid r c)[i]? = some (.ref (rid i) c 0 c) := by simp [refsL, h]
theorem refsL_set {rid : Nat → Nat} {r c i k : Nat} : (refsL rid r c).set i (.ref k c 0 c) = refsL (fun j => if j = i then k else rid j) r c := by
  apply List.ext_getElem
  · simp [refsL]
  · intro j h1 h2
    simp only [refsL, List.getElem_set, List.getElem_map, List.getElem_range]
    by_cases e : i = j
    · rw [if_pos e, if_pos e.symm]
    · rw [if_neg e, if_neg (fun h => e h.symm)]
theorem refsL_succ {rid : Nat → Nat} {r c : Nat} : refsL rid (r + 1) c = refsL rid r c ++ [.ref (rid r) c 0 c] := by simp [refsL, List.range_succ]
theorem refsL_congr {rid rid' : Nat → Nat} {r c : Nat} (h : ∀ i, i < r → rid i = rid' i) : refsL rid r c = refsL rid' r c := List.map_congr_left fun i hi => by rw [h i (List.mem_range.1 hi)]
def rowsO (t : Nat) (e : Bool) (r : Nat) (row : Nat → List AV) : List AV := (List.range r).map fun i => AV.own t (row i) [] e
theorem rowsO_len {t : Nat} {e : Bool} {r : Nat} {row : Nat → List AV} : (rowsO t e r row).length = r := by simp [rowsO]
theorem rowsO_succ {t : Nat} {e : Bool} {r : Nat} {row : Nat → List AV} : rowsO t e (r + 1) row = rowsO t e r row ++ [.own t (row r) [] e] := by simp [rowsO, List.range_succ]
def rowsH (h : Nat → Blk) (nx : Nat) (t : Nat) (e g : Bool) (r : Nat) (row : Nat → List AV) : Nat → Blk := fun i => if nx ≤ i ∧ i < nx + r then ⟨t, row (i - nx), e, g, true⟩ else h i
theorem matL_append (g : Bool) : ∀ (xs ys : List AV) (st : St), matL g (xs ++ ys) st = ((matL g xs st).1 ++ (matL g ys (matL g xs st).2).1, (matL g ys (matL g xs st).2).2)
 | [], ys, st => rfl
 | x :: xs, ys, st => by simp only [List.cons_append, matL]; rw [matL_append g xs ys]
theorem matL_rows (g : Bool) {t : Nat} {e : Bool} {row : Nat → List AV} {c : Nat} {fr : Nat → AV} {h : Nat → Blk} {nx : Nat} : ∀ (r : Nat), (∀ i, i < r → (row i).length = c ∧ AV.pureL (row i) = true) →
    matL g (rowsO t e r row) ⟨fr, h, nx⟩ = (refsL (fun i => nx + i) r c, ⟨fr, rowsH h nx t e g r row, nx + r⟩)
  | 0, _ => by
    have : rowsH h nx t e g 0 row = h := by funext i; unfold rowsH; rw [if_neg (by omega)]
    simp [rowsO, refsL, matL, this]
  | r + 1, hr => by
    have ih := matL_rows g (t := t) (e := e) (row := row) (c := c) (fr := fr) (h := h) (nx := nx) r (fun i hi => hr i (by omega))
    obtain ⟨k1, k2⟩ := hr r (by omega)
    rw [rowsO_succ, matL_append, ih]
    simp only [matL, matA, matL_pure _ _ _ k2, St.new, List.append_nil, List.length_nil, Nat.add_zero, k1, refsL_succ]
    congr 2
    funext i
    simp only [upd, rowsH]
    by_cases e1 : i = nx + r
    · subst e1
      rw [if_pos rfl, if_pos (by omega)]
      simp
    · rw [if_neg e1]
      by_cases e2 : nx ≤ i ∧ i < nx + r
      · rw [if_pos e2, if_pos (by omega)]
      · rw [if_neg e2, if_neg (by omega)]
theorem matA_rows (g : Bool) {T t : Nat} {e e2 : Bool} {row : Nat → List AV} {r c : Nat} {fr : Nat → AV} {h : Nat → Blk} {nx : Nat} (hr : ∀ i, i < r → (row i).length = c ∧ AV.pureL (row i) = true) :
  matA g (.own T (rowsO t e r row) [] e2) ⟨fr, h, nx⟩ = (.ref (nx + r) r 0 r, ⟨fr, upd (rowsH h nx t e g r row) (nx + r) ⟨T, refsL (fun i => nx + i) r c, e2, g, true⟩, nx + r + 1⟩) := by
 simp only [matA, matL_rows g r hr, matL, St.new, List.append_nil, List.length_nil, Nat.add_zero, rowsO_len]
theorem snapL_append' {f : AV → Option (AV × List Nat)} : ∀ {xs ys : List AV} {a b : List AV} {i j : List Nat}, snapL f xs = some (a, i) → snapL f ys = some (b, j) → snapL f (xs ++ ys) = some (a ++ b, i ++ j)
 | [], ys, a, b, i, j, h, k => by simp only [snapL, Option.some.injEq, Prod.mk.injEq] at h; obtain ⟨rfl, rfl⟩ := h; simpa using k
 | x :: xs, ys, a, b, i, j, h, k => by
  obtain ⟨y, i1, ys1, is1, h1, h2, h3⟩ := snapL_cons h
  simp only [Prod.mk.injEq] at h3
  obtain ⟨rfl, rfl⟩ := h3
  simp [snapL, h1, snapL_append' h2 k]
theorem ownA_row {st : St} {d id c : Nat} {t : Nat} {e : Bool} {xs : List AV} (hi : st.h id = ⟨t, xs, e, true, true⟩) (hl : xs.length = c) (hp : AV.pureL xs = true) : ownA st (d + 1) (.ref id c 0 c) = some (.own t xs [] e, [id]) := by
 have htk : xs.take c = xs := List.take_of_length_le (by omega)
 have hdr : xs.drop c = [] := List.drop_eq_nil_of_le (by omega)
 rw [ownA_ref, hi]
 simp only [hl, htk, hdr, snapLo_pure hp]
 cases e <;> simp [snapL]
theorem ownL_rows {st : St} {d t c : Nat} {e : Bool} {row : Nat → List AV} {rid : Nat → Nat} : ∀ (r : Nat), (∀ i, i < r → st.h (rid i) = ⟨t, row i, e, true, true⟩ ∧ (row i).length = c ∧ AV.pureL (row i) = true) →
  snapL (ownA st (d + 1)) (refsL rid r c) = some (rowsO t e r row, (List.range r).map rid)
 | 0, _ => rfl
 | r + 1, hr => by
  obtain ⟨h1, h2, h3⟩ := hr r (by omega)
  have ih := ownL_rows (st := st) (d := d) (t := t) (c := c) (e := e) (row := row) (rid := rid) r (fun i hi => hr i (by omega))
  rw [refsL_succ, rowsO_succ, List.range_succ, List.map_append]
  exact snapL_append' ih (by simp [snapL, ownA_row h1 h2 h3])
theorem ownA_rows {st : St} {d o T t r c : Nat} {e e2 : Bool} {row : Nat → List AV} {rid : Nat → Nat} (ho : st.h o = ⟨T, refsL rid r c, e2, true, true⟩) (hr : ∀ i, i < r → st.h (rid i) = ⟨t, row i, e, true, true⟩ ∧ (row i).length = c ∧ AV.pureL (row i) = true) :
  ownA st (d + 2) (.ref o r 0 r) = some (.own T (rowsO t e r row) [] e2, o :: (List.range r).map rid) := by
 have htk : (refsL rid r c).take r = refsL rid r c := List.take_of_length_le (by rw [refsL_len]; exact Nat.le_refl _)
 have hdr : (refsL rid r c).drop r = [] := List.drop_eq_nil_of_le (by rw [refsL_len]; exact Nat.le_refl _)
 rw [ownA_ref, ho]
 simp only [refsL_len, htk, hdr, ownL_rows r hr]
 cases e2 <;> simp [snapL]
def rowsS (t : Nat) (r : Nat) (row : Nat → List AV) : List AV := (List.range r).map fun i => AV.sl t (row i) [] false
theorem rowsS_len {t : Nat} {r : Nat} {row : Nat → List AV} : (rowsS t r row).length = r := by simp [rowsS]
theorem rowsS_at {t r i : Nat} {row : Nat → List AV} (h : i < r) : (rowsS t r row)[i]? = some (.sl t (row i) [] false) := by simp [rowsS, h]
theorem rowsS_succ {t : Nat} {r : Nat} {row : Nat → List AV} : rowsS t (r + 1) row = rowsS t r row ++ [.sl t (row r) [] false] := by simp [rowsS, List.range_succ]
theorem rowsS_pure {t : Nat} {row : Nat → List AV} : ∀ {r : Nat}, (∀ i, i < r → AV.pureL (row i) = true) → AV.pureL (rowsS t r row) = true
 | 0, _ => rfl
 | r + 1, h => by rw [rowsS_succ, pureL_append, rowsS_pure fun i hi => h i (by omega)]; simp [AV.pureL, AV.pure, h r (by omega)]
theorem snapL_rows {st : St} {d t c : Nat} {row : Nat → List AV} {rid : Nat → Nat} : ∀ (r : Nat), (∀ i, i < r → ∃ e g, st.h (rid i) = ⟨t, row i, e, g, true⟩ ∧ (row i).length = c ∧ AV.pureL (row i) = true) →
  snapL (snapA st (d + 1)) (refsL rid r c) = some (rowsS t r row, (List.range r).map rid)
 | 0, _ => rfl
 | r + 1, hr => by
  obtain ⟨e, g, h1, h2, h3⟩ := hr r (by omega)
  have ih := snapL_rows (st := st) (d := d) (t := t) (c := c) (row := row) (rid := rid) r (fun i hi => hr i (by omega))
  rw [refsL_succ, rowsS_succ, List.range_succ, List.map_append]
  refine snapL_append' ih ?_
  have := snap_frozen (st := st) (d := d) (id := rid r) (n := c) (off := 0) (len := c) (T := t) (r := row r) (by rw [h1]) (by rw [h1]; exact h2) (by rw [h1]) (by omega) (by rw [h1, List.drop_zero]; exact List.take_of_length_le (Nat.le_of_eq h2)) h3
  simp [snapL, this]
theorem snapA_rows {st : St} {d o T t r c : Nat} {e2 g2 : Bool} {row : Nat → List AV} {rid : Nat → Nat} (ho : st.h o = ⟨T, refsL rid r c, e2, g2, true⟩) (hr : ∀ i, i < r → ∃ e g, st.h (rid i) = ⟨t, row i, e, g, true⟩ ∧ (row i).length = c ∧ AV.pureL (row i) = true) :
  snapA st (d + 2) (.ref o r 0 r) = some (.sl T (rowsS t r row) [] false, o :: (List.range r).map rid) := by
 have htk : (refsL rid r c).take r = refsL rid r c := List.take_of_length_le (by rw [refsL_len]; exact Nat.le_refl _)
 rw [snapA_ref, ho]
 simp only [refsL_len, List.drop_zero, htk, snapL_rows r hr]
 simp

section
variable {P : Program} {W : WP} {f : FuncId} {fn : Func} {c : Code} {args : List AV} {x : AV} {fr : Nat → AV} {h : Nat → Blk} {nx : Nat}
theorem inOkS0 (hm : P.follows .mixedOrders = true) (hf : P.funcs[f]? = some fn) (hb : fn.body = some c) (hok : codeOk W fn.ntmps c = true) (hn : args.length ≤ fn.ntmps)
  (hw : wpc P W c ⟨fun i => args.getD i .undef, h, nx⟩ (PostS P fn x h nx [])) : InOk P ⟨fr, h, nx⟩ f args x ⟨fr, h, nx⟩ := by
 have := inOkS_of_wpcD (fr := fr) (h' := h) (eat := []) hm hf hb hok hn (fun _ _ _ => .inl rfl) hw
 rwa [cutH_self] at this
theorem inOkN0 {T : Nat} {xs sp : List AV} {ex : Bool} (hm : P.follows .mixedOrders = true) (hf : P.funcs[f]? = some fn) (hb : fn.body = some c) (hok : codeOk W fn.ntmps c = true) (hn : args.length ≤ fn.ntmps) (hp : AV.pureL xs = true) (hs : AV.pureL sp = true)
  (hw : wpc P W c ⟨fun i => args.getD i .undef, h, nx⟩ (PostN P fn (.own T xs sp ex) h nx [])) : InOk P ⟨fr, h, nx⟩ f args (.ref nx (xs.length + sp.length) 0 xs.length) ⟨fr, upd h nx ⟨T, xs ++ sp, ex, true, true⟩, nx + 1⟩ := by
 have := inOkN_of_wpcD (fr := fr) (h' := h) (eat := []) hm hf hb hok hn (fun _ _ _ => .inl rfl) hw
 rw [cutH_self] at this
 simpa only [matA, matL_pure _ _ _ hp, matL_pure _ _ _ hs, St.new] using this
end
section
variable {P : Program} {fn : Func} {h' : Nat → Blk} {nx : Nat} {eat : List Nat} {st : St} {e : Ex}
theorem postN_own {t : Tmp} {id n len T : Nat} {r sp : List AV} {ex : Bool} (he : e = .ret ∨ e = .normal) (hr : fn.results.toList = [.tmp t]) (hv : st.fr t = .ref id n 0 len)
  (hlv : (st.h id).lv = true) (hn : (st.h id).xs.length = n) (hg : (st.h id).gr = true) (ht : (st.h id).t = T) (hl : len ≤ n) (hid : nx ≤ id) (hxs : (st.h id).xs.take len = r) (hsp : (if (st.h id).ex = true then (st.h id).xs.drop len else []) = sp) (hex : (st.h id).ex = ex)
  (hp : AV.pureL r = true) (hq : AV.pureL sp = true) (hh : ∀ i, i < nx → i ∉ eat → st.h i = h' i) : PostN P fn (.own T r sp ex) h' nx eat e st := by
 refine ⟨by rcases he with rfl | rfl <;> trivial, ⟨.ref id n 0 len, [id], by rw [hr]; simp [resV, resL, resA, hv], ?_, by simp, by simpa using hid⟩, hh⟩
 rw [ownA_ref, if_pos ⟨hlv, hn, rfl, hl, hg⟩, hxs, snapLo_pure hp, ht]
 rw [hex] at hsp
 simp only [hex, Option.bind_some]
 cases ex with
 | true => simp only [if_true] at hsp ⊢; rw [hsp, snapLo_pure hq]; simp
 | false => simp only [Bool.false_eq_true, if_false] at hsp ⊢; rw [← hsp]; simp
end
theorem c_l09In : callable Tryz.prog 29 = true := by kernel_rfl
theorem c_l09Rest : callable Tryz.prog 76 = true := by kernel_rfl
theorem s_l09In {x : MR} {v : List Rat} {M n : Nat} (hM : M ≤ 50000000000) (hn : n + 1 < v.length) (hl : v.length ≤ 1000) : CP Tryz.prog 29 41 x.sv [lS M v, .int .i64 n] (rS (700 + M + 1) (x.reward + v.getD (n + 1) 0)) := by
 obtain ⟨q, hq⟩ := get_some (xs := v) (i := n + 1) (by omega)
 have hqk : ((n : Int) + 1).toNat = n + 1 := by omega
 rw [getD_of hq]
 (intro fr0 h nx id hm hid; refine inOkF_of_wpc (W := ⟨fun _ => false, fun _ => none⟩) hm' Tryz.func29 rfl (by kernel_rfl) (Nat.le_of_ble_eq_true rfl) (by simp [AV.pure, AV.pureL]) (go_start ?_); generalize hQ : PostF Tryz.prog Tryz.f29 _ _ _ = Q; clear fr0)
 simp (disch := omega) only [go_sem, Nat.reduceEqDiff, Nat.reduceBEq, ↓reduceIte, reduceCtorEq, hm, hq, hqk]
 (repeat (with_reducible refine Or.inr ?_))
 rw [← hQ]
 exact postF_cell1 (id := nx) (x := rS (700 + M + 1) (x.reward + q)) (.inl rfl) rfl o_sRat (by simp [upd_app] <;> omega) (by simp [upd_app]) (by simp [upd_app]) ld_sRat (by intro i hi; simp only [upd_app]; repeat rw [if_neg (by omega)]) (by simp <;> omega)
theorem betL_succ {x : MR} {v : List Rat} {n : Nat} : (List.range (n + 1)).map (betB x v) = (List.range n).map (betB x v) ++ [betB x v n] := by simp [List.range_succ]
theorem i_l09Better {fr : Nat → AV} {h : Nat → Blk} {nx id M : Nat} {x : MR} {v : List Rat} (hM : M ≤ 50000000000) (hb : h id = ⟨41, [x.sv], true, false, true⟩) (hid : id < nx) (h1 : 1 ≤ x.room) (h8 : x.room ≤ 8) (hv : v.length = x.room + 1) :
    InOk Tryz.prog ⟨fr, h, nx⟩ 21 [.ptr id 1 0 0, lS M v] (.ref nx x.room 0 x.room) ⟨fr, upd h nx ⟨4, boolA (betL x v), false, true, true⟩, nx + 1⟩ := by
  refine inOk_of_wpc (W := fun _ => false) hm' Tryz.func21 rfl (by kernel_rfl) (Nat.le_of_ble_eq_true rfl) (go_start ?_)
  generalize hQ : PostIn Tryz.prog Tryz.f21 _ _ _ = Q
  have n1 : (id = nx) = False := by simp; omega
  have n2 : (nx = id) = False := by simp; omega
  have hupd : ∀ z w : Blk, upd (upd h nx z) nx w = upd h nx w := by intro z w; funext j; simp only [upd_app]; split <;> rfl
  obtain ⟨r, hr⟩ : ∃ r, x.room = r := ⟨_, rfl⟩
  rw [betL] at hQ
  rw [hr] at h1 h8 hQ hv
  simp (disch := omega) only [go_sem, Nat.reduceEqDiff, Nat.reduceBEq, ↓reduceIte, reduceCtorEq, hb]
  refine k_loop (fun (n : Nat) st => st.fr 0 = .ptr id 1 0 0 ∧ st.fr 1 = lS M v ∧ st.fr 5 = .ref nx n 0 n ∧ st.fr 6 = .int .i64 n ∧ st.h = upd h nx ⟨4, boolA ((List.range n).map (betB x v)), (n == 0), true, true⟩ ∧ st.nx = nx + 1 ∧ n ≤ r) (fun n => r - n) 0
    ⟨(by simp [upd_app] <;> omega), (by simp [upd_app] <;> omega), (by simp [upd_app] <;> omega), (by simp [upd_app] <;> omega), by simp [boolA], rfl, by omega⟩ ?_
  rintro n ⟨fr1, h2, nx1⟩ ⟨g0, g1, g5, g6, eh, enx, hn⟩ J hJ
  simp only at g0 g1 g5 g6 eh enx
  subst eh enx
  by_cases hin : n < r
  · have hel : (boolA ((List.range n).map (betB x v))).length = n := by simp [boolA_len]
    have hz1 : (n + 1 == 0) = false := by simp
    obtain ⟨p, hp⟩ := get_some (xs := v) (i := n) (by omega)
    have hin' := cpe (s_l09In (x := x) (v := v) (M := M) (n := n) hM (by omega) (by omega)) c_l09In
    have hle := w_sLess (m := 700 + M + 1) (n := M) (a := x.reward + v.getD (n + 1) 0) (b := p) (by omega)
    have hbd : betB x v n = !decide (x.reward + v.getD (n + 1) 0 < p) := by
      rw [betB, getD_of hp, ← decide_not]
      exact decide_eq_decide.2 Rat.not_lt.symm
    have hsn : boolA ((List.range n).map (betB x v)) ++ [.bool (!decide (x.reward + v.getD (n + 1) 0 < p))] = boolA ((List.range (n + 1)).map (betB x v)) := by rw [boolA_snoc, betL_succ, hbd]
    generalize decide (x.reward + v.getD (n + 1) 0 < p) = b at hle hsn
    simp (disch := first | omega | (simp [upd_app, evA]; done) | (simp [upd_app, evA, *]; done) | fail) only [go_sem, Nat.reduceEqDiff, Nat.reduceBEq, ↓reduceIte, reduceCtorEq, g0, g1, g5, g6, hb, n1, n2, hr, hel, hp, hin', hle, reach, hupd, hsn]
    (repeat (with_reducible refine Or.inr ?_))
    exact hJ (n + 1) _ ⟨(by simp [upd_app, g0] <;> omega), (by simp [upd_app, g1] <;> omega), (by simp [upd_app] <;> omega), (by simp [upd_app] <;> omega), by simp only [hz1, List.range_succ], by simp only, hin⟩ (by omega)
  · obtain rfl : n = r := by omega
    have hz : (n == 0) = false := by simp; omega
    simp (disch := omega) only [go_sem, Nat.reduceEqDiff, Nat.reduceBEq, ↓reduceIte, reduceCtorEq, g0, g1, g5, g6, hb, n1, n2, hr]
    rw [← hQ]
    exact postIn_one (.inl rfl) rfl (by simp [upd_app] <;> omega) (by rw [hz]) rfl

abbrev Mx := Nat → Nat → Rat
def sumN (f : Nat → Rat) : Nat → Rat
 | 0 => 0
 | n + 1 => sumN f n + f n
theorem sumN_congr {f g : Nat → Rat} : ∀ {n : Nat}, (∀ i, i < n → f i = g i) → sumN f n = sumN g n
 | 0, _ => rfl
 | n + 1, h => by rw [sumN, sumN, sumN_congr fun i hi => h i (by omega), h n (by omega)]
theorem sumN_zero {f : Nat → Rat} {n : Nat} (h : ∀ i, i < n → f i = 0) : sumN f n = 0 := by
 rw [sumN_congr (g := fun _ => 0) h]
 induction n with
 | zero => rfl
 | succ n ih => rw [sumN, ih (fun i hi => h i (by omega))]; exact Rat.add_zero 0
theorem sumN_one {f : Nat → Rat} {k : Nat} : ∀ {n : Nat}, k < n → (∀ i, i < n → i ≠ k → f i = 0) → sumN f n = f k
  | 0, h, _ => absurd h (Nat.not_lt_zero k)
  | n + 1, hk, h => by
    rw [sumN]
    by_cases e : k = n
    · subst e; rw [sumN_zero fun i hi => h i (by omega) (by omega), Rat.zero_add]
    · rw [sumN_one (show k < n by omega) fun i hi hne => h i (by omega) hne, h n (by omega) (fun e' => e e'.symm), Rat.add_zero]
theorem sumN_lin {f g : Nat → Rat} {c : Rat} : ∀ n, sumN (fun j => f j - c * g j) n = sumN f n - c * sumN g n
 | 0 => by simp only [sumN]; grind
 | n + 1 => by rw [sumN, sumN, sumN, sumN_lin n]; grind
def swp (a : Mx) (k p : Nat) : Mx := fun i => if i = k then a p else if i = p then a k else a i
def pivF (a : Mx) (k : Nat) : Nat → Nat → Nat
 | 0, i => i
 | f + 1, i => if a i k = 0 then pivF a k f (i + 1) else i
def piv (a : Mx) (k n : Nat) : Nat := pivF a k (n - k) k
theorem pivF_spec (a : Mx) (k : Nat) : ∀ f i, i ≤ pivF a k f i ∧ pivF a k f i ≤ i + f ∧ (∀ j, i ≤ j → j < pivF a k f i → a j k = 0) ∧ (pivF a k f i < i + f → a (pivF a k f i) k ≠ 0)
  | 0, i => ⟨Nat.le_refl _, by simp [pivF], fun j h1 h2 => by simp only [pivF] at h2; omega, fun h => by simp [pivF] at h⟩
  | f + 1, i => by
    rw [pivF]
    split
    · rename_i h
      obtain ⟨h1, h2, h3, h4⟩ := pivF_spec a k f (i + 1)
      refine ⟨by omega, by omega, fun j hj hl => ?_, fun hl => h4 (by omega)⟩
      by_cases e : j = i
      · rw [e]; exact h
      · exact h3 j (by omega) hl
    · rename_i h
      exact ⟨Nat.le_refl _, by omega, fun j h1 h2 => by omega, fun _ => h⟩
theorem piv_spec {a : Mx} {k n : Nat} (hk : k ≤ n) : k ≤ piv a k n ∧ piv a k n ≤ n ∧ (∀ j, k ≤ j → j < piv a k n → a j k = 0) ∧ (piv a k n < n → a (piv a k n) k ≠ 0) := by
 obtain ⟨h1, h2, h3, h4⟩ := pivF_spec a k (n - k) k
 exact ⟨h1, by unfold piv; omega, h3, fun h => h4 (by unfold piv at h; omega)⟩
theorem piv_eq {a : Mx} {k n i : Nat} (h1 : k ≤ i) (h2 : i ≤ n) (h3 : ∀ j, k ≤ j → j < i → a j k = 0) (h4 : i = n ∨ a i k ≠ 0) : piv a k n = i := by
  obtain ⟨k1, k2, k3, k4⟩ := piv_spec (a := a) (k := k) (n := n) (by omega)
  rcases Nat.lt_trichotomy (piv a k n) i with h | h | h
  · exact absurd (h3 _ k1 h) (k4 (by omega))
  · exact h
  · rcases h4 with rfl | h4
    · omega
    · exact absurd (k3 _ h1 h) h4
theorem piv_congr {a b : Mx} {k n : Nat} (hk : k ≤ n) (h : ∀ i, k ≤ i → a i = b i) : piv a k n = piv b k n := by
  obtain ⟨k1, k2, k3, k4⟩ := piv_spec (a := b) (k := k) (n := n) hk
  refine piv_eq k1 k2 (fun j h1 h2 => by rw [h j h1]; exact k3 j h1 h2) ?_
  by_cases e : piv b k n = n
  · exact .inl e
  · exact .inr (by rw [h _ k1]; exact k4 (by omega))
def elmI (a : Mx) (k : Nat) : Mx := fun i j => if k < i ∧ k ≤ j then a i j - a i k / a k k * a k j else a i j
def elmS (a : Mx) (k : Nat) : Mx := fun i j => if i ≠ k ∧ k ≤ j then a i j - a i k / a k k * a k j else a i j
def gI (a : Mx) (n : Nat) : Nat → Option Mx
 | 0 => some a
 | k + 1 => match gI a n k with
  | some u => if piv u k n = n then none else some (elmI (swp u k (piv u k n)) k)
  | none => none
def gS (a : Mx) (n : Nat) : Nat → Option Mx
 | 0 => some a
 | k + 1 => match gS a n k with
  | some u => if piv u k n = n then none else some (elmS (swp u k (piv u k n)) k)
  | none => none
def Slv (a : Mx) (n : Nat) (y : Nat → Rat) (i : Nat) : Prop := sumN (fun j => a i j * y j) n = a i n
def sbX (a : Mx) (y : Nat → Rat) (k : Nat) : Nat → Rat
 | 0 => y k
 | m + 1 => sbX a y k m - a k (k + 1 + m) * y (k + 1 + m)
def bk (a : Mx) (n : Nat) : Nat → Nat → Rat
 | 0 => fun i => a i n
 | t + 1 => fun i => if i = n - 1 - t then sbX a (bk a n t) (n - 1 - t) t / a (n - 1 - t) (n - 1 - t) else bk a n t i
structure Both (n k : Nat) (u w : Mx) : Prop where
 row : ∀ i, k ≤ i → u i = w i
 zer : ∀ j, j < k → ∀ i, i ≠ j → w i j = 0
 dia : ∀ j, j < k → w j j ≠ 0
 uzer : ∀ i, i < k → ∀ j, j < i → u i j = 0
 udia : ∀ i, i < k → u i i ≠ 0
 sol : ∀ y : Nat → Rat, (∀ i, i < n → Slv w n y i) → ∀ i, i < n → Slv u n y i
theorem swp_row {a : Mx} {k p i : Nat} : swp a k p i = a (if i = k then p else if i = p then k else i) := by
  unfold swp; split
  · rfl
  · split <;> rfl
theorem elmS_at {a : Mx} {k i : Nat} (hi : i ≠ k) (hz : ∀ j, j < k → a k j = 0) (j : Nat) : elmS a k i j = a i j - a i k / a k k * a k j := by
  unfold elmS
  by_cases h : k ≤ j
  · rw [if_pos ⟨hi, h⟩]
  · rw [if_neg (fun h' => h h'.2), hz j (by omega)]; grind
theorem both_step {n k : Nat} {u w : Mx} (hk : k < n) (h : Both n k u w) : piv u k n = piv w k n ∧ (piv w k n ≠ n → Both n (k + 1) (elmI (swp u k (piv u k n)) k) (elmS (swp w k (piv w k n)) k)) := by
  have hp := piv_congr (n := n) (by omega) h.row
  refine ⟨hp, fun hne => ?_⟩
  rw [hp]
  obtain ⟨p1, p2, p3, p4⟩ := piv_spec (a := w) (k := k) (n := n) (by omega)
  generalize piv w k n = p at *
  have p4 := p4 (by omega)
  have hup : u p = w p := h.row p p1
  have huk : u k = w k := h.row k (Nat.le_refl _)
  have hkk : swp w k p k = w p := by unfold swp; rw [if_pos rfl]
  have hkku : swp u k p k = w p := by unfold swp; rw [if_pos rfl, hup]
  have hz : ∀ j, j < k → swp w k p k j = 0 := fun j hj => by rw [hkk]; exact h.zer j hj p (by omega)
  have hd : swp w k p k k ≠ 0 := by rw [hkk]; exact p4
  have hsw : ∀ j, j < k → ∀ i, i ≠ j → swp w k p i j = 0 := fun j hj i hi => by
    rw [swp_row]
    split
    · exact h.zer j hj p (by omega)
    · split
      · exact h.zer j hj k (by omega)
      · exact h.zer j hj i hi
  have hlow : ∀ j, j < k → swp w k p j = w j := fun j hj => by rw [swp_row, if_neg (by omega), if_neg (by omega)]
  have hlowu : ∀ j, j < k → swp u k p j = u j := fun j hj => by rw [swp_row, if_neg (by omega), if_neg (by omega)]
  have back : ∀ y : Nat → Rat, (∀ i, i < n → Slv (elmS (swp w k p) k) n y i) → ∀ i, i < n → Slv w n y i := by
    intro y hy
    have hrow : Slv (swp w k p) n y k := by
      have := hy k hk
      unfold Slv at this ⊢
      have e : ∀ j, elmS (swp w k p) k k j = swp w k p k j := fun j => by unfold elmS; rw [if_neg (fun h => h.1 rfl)]
      simp only [e] at this
      exact this
    have hall : ∀ i, i < n → Slv (swp w k p) n y i := by
      intro i hi
      by_cases e : i = k
      · rw [e]; exact hrow
      · have h1 := hy i hi
        unfold Slv at h1 hrow ⊢
        rw [elmS_at e hz] at h1
        have h2 : sumN (fun j => elmS (swp w k p) k i j * y j) n = sumN (fun j => swp w k p i j * y j - swp w k p i k / swp w k p k k * (swp w k p k j * y j)) n :=
          sumN_congr fun j _ => by rw [elmS_at e hz]; grind
        rw [h2, sumN_lin, hrow] at h1
        grind
    intro i hi
    by_cases e : i = k
    · have := hall p (by omega)
      unfold Slv at this ⊢
      rw [swp_row] at this
      subst e
      by_cases ep : p = i
      · subst ep; simpa using this
      · simpa [ep] using this
    · by_cases ep : i = p
      · have := hall k hk
        unfold Slv at this ⊢
        rw [swp_row, if_pos rfl] at this
        rw [ep]; exact this
      · have := hall i hi
        unfold Slv at this ⊢
        rw [swp_row, if_neg e, if_neg ep] at this
        exact this
  refine ⟨fun i hi => ?_, fun j hj i hi => ?_, fun j hj => ?_, fun i hi j hj => ?_, fun i hi => ?_, fun y hy i hi => ?_⟩
  · funext j
    have e1 : swp u k p i = swp w k p i := by
      rw [swp_row, swp_row]
      split
      · exact hup
      · split
        · exact huk
        · exact h.row i (by omega)
    have e2 : swp u k p k = swp w k p k := by rw [hkku, hkk]
    unfold elmI elmS
    rw [e1, e2]
    by_cases c : k ≤ j
    · rw [if_pos ⟨by omega, c⟩, if_pos ⟨by omega, c⟩]
    · rw [if_neg (fun h => c h.2), if_neg (fun h => c h.2)]
  · by_cases e : j = k
    · subst e
      rw [elmS_at hi hz]
      grind
    · unfold elmS
      rw [if_neg (fun h => by omega)]
      exact hsw j (by omega) i hi
  · by_cases e : j = k
    · subst e
      unfold elmS
      rw [if_neg (fun h => h.1 rfl)]
      exact hd
    · unfold elmS
      rw [if_neg (fun h => by omega), hlow j (by omega)]
      exact h.dia j (by omega)
  · unfold elmI
    rw [if_neg (fun h => by omega)]
    by_cases e : i = k
    · subst e; rw [hkku]; exact h.zer j hj p (by omega)
    · rw [hlowu i (by omega)]; exact h.uzer i (by omega) j hj
  · unfold elmI
    rw [if_neg (fun h => by omega)]
    by_cases e : i = k
    · subst e; rw [hkku]; exact p4
    · rw [hlowu i (by omega)]; exact h.udia i (by omega)
  · have hw := back y hy
    by_cases c : k < i
    · -- row i is that of w'
      have := hy i hi
      have er : elmI (swp u k p) k i = elmS (swp w k p) k i := by
        funext j
        have e1 : swp u k p i = swp w k p i := by
          rw [swp_row, swp_row]
          split
          · exact hup
          · split
            · exact huk
            · exact h.row i (by omega)
        have e2 : swp u k p k = swp w k p k := by rw [hkku, hkk]
        unfold elmI elmS
        rw [e1, e2]
        by_cases c : k ≤ j
        · rw [if_pos ⟨by omega, c⟩, if_pos ⟨by omega, c⟩]
        · rw [if_neg (fun h => c h.2), if_neg (fun h => c h.2)]
      unfold Slv at this ⊢
      rw [er]; exact this
    · have er : elmI (swp u k p) k i = swp u k p i := by
        funext j
        unfold elmI
        rw [if_neg (fun h => c h.1)]
      have hu := h.sol y hw
      unfold Slv
      rw [er]
      by_cases e : i = k
      · rw [e, hkku]; exact hw p (by omega)
      · rw [hlowu i (by omega)]; exact hu i hi
theorem both_all (a : Mx) {n : Nat} : ∀ k, k ≤ n → match gI a n k, gS a n k with
    | some u, some w => Both n k u w
    | none, none => True
    | _, _ => False
  | 0, _ => ⟨fun _ _ => rfl, fun j hj => absurd hj (Nat.not_lt_zero j), fun j hj => absurd hj (Nat.not_lt_zero j), fun j hj => absurd hj (Nat.not_lt_zero j), fun j hj => absurd hj (Nat.not_lt_zero j), fun _ h => h⟩
  | k + 1, hk => by
    have ih := both_all a (n := n) k (by omega)
    rw [gI, gS]
    cases hu : gI a n k with
    | none =>
      cases hw : gS a n k with
      | none => trivial
      | some w => rw [hu, hw] at ih; exact ih.elim
    | some u =>
      cases hw : gS a n k with
      | none => rw [hu, hw] at ih; exact ih.elim
      | some w =>
        rw [hu, hw] at ih
        obtain ⟨h1, h2⟩ := both_step (n := n) (k := k) (by omega) ih
        simp only
        by_cases e : piv w k n = n
        · rw [if_pos (h1.trans e), if_pos e]; trivial
        · rw [if_neg (fun h => e (h1.symm.trans h)), if_neg e]; exact h2 e
theorem sbX_sum {a : Mx} {y : Nat → Rat} {k : Nat} : ∀ m, sbX a y k m = y k - (sumN (fun j => a k j * y j) (k + 1 + m) - sumN (fun j => a k j * y j) (k + 1))
 | 0 => by rw [sbX, Nat.add_zero]; grind
 | m + 1 => by
  have e : sumN (fun j => a k j * y j) (k + 1 + (m + 1)) = sumN (fun j => a k j * y j) (k + 1 + m) + a k (k + 1 + m) * y (k + 1 + m) := by rw [← Nat.add_assoc (k + 1) m 1, sumN]
  rw [sbX, sbX_sum m, e]
  generalize sumN (fun j => a k j * y j) (k + 1 + m) = A
  generalize sumN (fun j => a k j * y j) (k + 1) = B
  grind
theorem sbX_congr {a : Mx} {y z : Nat → Rat} {k : Nat} (h0 : y k = z k) : ∀ m, (∀ j, k < j → j < k + 1 + m → y j = z j) → sbX a y k m = sbX a z k m
 | 0, _ => h0
 | m + 1, h => by rw [sbX, sbX, sbX_congr h0 m (fun j h1 h2 => h j h1 (by omega)), h (k + 1 + m) (by omega) (by omega)]
theorem bk_sol {u : Mx} {n : Nat} {y : Nat → Rat} (hz : ∀ i, i < n → ∀ j, j < i → u i j = 0) (hd : ∀ i, i < n → u i i ≠ 0) (hs : ∀ i, i < n → Slv u n y i) : ∀ t, t ≤ n → (∀ i, i < n → bk u n t i = if n - t ≤ i then y i else u i n)
  | 0, _, i, hi => by rw [if_neg (by omega), bk]
  | t + 1, ht, i, hi => by
    have ih := bk_sol hz hd hs t (by omega)
    rw [bk]
    simp only
    by_cases e : i = n - 1 - t
    · rw [if_pos e, if_pos (by omega), ← e]
      have h1 : sbX u (bk u n t) i t = sbX u (fun j => if j = i then u i n else y j) i t := by
        refine sbX_congr ?_ t fun j h1 h2 => ?_
        · rw [ih i hi, if_neg (by omega)]; simp
        · rw [ih j (by omega), if_pos (by omega), if_neg (by omega)]
      have h2 := sbX_sum (a := u) (y := fun j => if j = i then u i n else y j) (k := i) t
      simp only [if_true] at h2
      have h3 := hs i hi
      unfold Slv at h3
      have en : i + 1 + t = n := by omega
      rw [en] at h2
      have h4 : ∀ m, i + 1 ≤ m → sumN (fun j => u i j * (if j = i then u i n else y j)) m = sumN (fun j => u i j * y j) m - u i i * y i + u i i * u i n := by
        intro m
        induction m with
        | zero => intro h; omega
        | succ m ihm =>
          intro h
          rw [sumN, sumN]
          by_cases em : m = i
          · subst em
            rw [sumN_congr (g := fun j => u m j * y j) (fun j hj => by rw [if_neg (by omega)]), if_pos rfl]; grind
          · rw [ihm (by omega), if_neg em]; grind
      have h5 : sumN (fun j => u i j * y j) (i + 1) = u i i * y i := by
        rw [sumN, sumN_zero (fun j hj => by rw [hz i hi j hj]; grind)]; grind
      rw [h1, h2, h4 n (by omega), h4 (i + 1) (Nat.le_refl _), h5, h3]
      have := hd i hi
      grind
    · rw [if_neg e, ih i hi]
      by_cases c : n - t ≤ i
      · rw [if_pos c, if_pos (by omega)]
      · rw [if_neg c, if_neg (by omega)]
theorem dia_sol {w : Mx} {n : Nat} (hz : ∀ j, j < n → ∀ i, i ≠ j → w i j = 0) (hd : ∀ j, j < n → w j j ≠ 0) : ∀ i, i < n → Slv w n (fun i => w i n / w i i) i := by
 intro i hi
 unfold Slv
 rw [sumN_one (k := i) hi (fun j hj hne => by rw [hz j hj i (fun e => hne e.symm)]; grind)]
 have := hd i hi
 grind
theorem sol_same (a : Mx) (n : Nat) : match gI a n n, gS a n n with
  | some u, some w => ∀ i, i < n → bk u n n i = w i n / w i i
  | none, none => True
  | _, _ => False := by
 have h := both_all a (n := n) n (Nat.le_refl _)
 cases hu : gI a n n with
 | none =>
  cases hw : gS a n n with
  | none => trivial
  | some w => rw [hu, hw] at h; exact h.elim
 | some u =>
  cases hw : gS a n n with
  | none => rw [hu, hw] at h; exact h.elim
  | some w =>
   rw [hu, hw] at h
   intro i hi
   have := bk_sol h.uzer h.udia (h.sol _ (dia_sol h.zer h.dia)) n (Nat.le_refl _) i hi
   rw [this, if_pos (by omega)]
theorem ne_num {q : Rat} (h : q ≠ 0) : q.num ≠ 0 := fun e => h (Rat.num_eq_zero.1 e)
def FitM (m : Nat) (a : Mx) (r c : Nat) : Prop := ∀ i j, i < r → j < c → fits m (a i j)
theorem FitM.mono {m m' r c : Nat} {a : Mx} (h : FitM m a r c) (hm : m ≤ m') : FitM m' a r c := fun i j hi hj => fits_mono (h i j hi hj) hm
theorem FitM.swp {m r c k p : Nat} {a : Mx} (h : FitM m a r c) (hk : k < r) (hp : p < r) : FitM m (swp a k p) r c := fun i j hi hj => by
  rw [swp_row]; split
  · exact h p j hp hj
  · split
    · exact h k j hk hj
    · exact h i j hi hj
def RowF (B : Nat) (r : Nat → Rat) (c : Nat) : Prop := ∃ s : Nat, s ≠ 0 ∧ s < 2 ^ B ∧ ∀ j, j < c → ∃ p : Int, r j = mkRat p s ∧ p.natAbs < 2 ^ B
theorem RowF.mono {B B' c : Nat} {r : Nat → Rat} (h : RowF B r c) (hB : B ≤ B') : RowF B' r c := by
 obtain ⟨s, h1, h2, h3⟩ := h
 have hp : 2 ^ B ≤ 2 ^ B' := Nat.pow_le_pow_right (by decide) hB
 exact ⟨s, h1, by omega, fun j hj => by obtain ⟨p, k1, k2⟩ := h3 j hj; exact ⟨p, k1, by omega⟩⟩
theorem two_lt_pow {a b n : Nat} (ha : a < 2 ^ n) (hb : b < 2 ^ n) : a + b < 2 ^ (n + 1) := by rw [Nat.pow_succ]; omega
theorem quot_rat {pj pk qk qj s t e : Rat} (hs : s ≠ 0) (ht : t ≠ 0) (hq : qk ≠ 0) (he : e ≠ 0) : pj / s - pk / s / (qk / t) * (qj / t) = e * (pj * qk - pk * qj) / (s * (qk * e)) := by grind
theorem quot_eq {pj pk qk qj : Int} {si sk : Nat} (hs : si ≠ 0) (ht : sk ≠ 0) (hq : qk ≠ 0) : mkRat pj si - mkRat pk si / mkRat qk sk * mkRat qj sk = mkRat (qk.sign * (pj * qk - pk * qj)) (si * qk.natAbs) := by
 rw [Rat.mkRat_eq_div, Rat.mkRat_eq_div, Rat.mkRat_eq_div, Rat.mkRat_eq_div, Rat.mkRat_eq_div]
 have h1 : (si : Rat) ≠ 0 := by simpa using hs
 have h2 : (sk : Rat) ≠ 0 := by simpa using ht
 have h3 : (qk : Rat) ≠ 0 := by simpa using hq
 have h4 : ((qk.sign : Int) : Rat) ≠ 0 := by simpa using hq
 have e : ((si * qk.natAbs : Nat) : Rat) = (si : Rat) * ((qk : Rat) * ((qk.sign : Int) : Rat)) := by
  have h := congrArg (fun z : Int => (z : Rat)) (Int.mul_sign_self qk)
  simp only [Rat.intCast_mul] at h
  rw [h, Rat.natCast_mul]
  rfl
 rw [e, Rat.intCast_mul, Rat.intCast_sub, Rat.intCast_mul, Rat.intCast_mul]
 exact quot_rat h1 h2 h3 h4
theorem RowF.elm {B c k : Nat} {ri rk : Nat → Rat} (hi : RowF B ri c) (hk : RowF B rk c) (hc : k < c) (h0 : rk k ≠ 0) : RowF (2 * B + 1) (fun j => if k ≤ j then ri j - ri k / rk k * rk j else ri j) c := by
  obtain ⟨s, s0, s1, s2⟩ := hi
  obtain ⟨t, t0, t1, t2⟩ := hk
  obtain ⟨qk, eqk, lqk⟩ := t2 k hc
  obtain ⟨pk, epk, lpk⟩ := s2 k hc
  have hq : qk ≠ 0 := fun e => h0 (by rw [eqk, e]; exact Rat.zero_mkRat t)
  have hqa : qk.natAbs ≠ 0 := by omega
  have hm : s * qk.natAbs < 2 ^ (B + B) := mul_lt_pow s1 lqk
  have hup : 2 ^ (B + B) ≤ 2 ^ (2 * B + 1) := Nat.pow_le_pow_right (by decide) (by omega)
  refine ⟨s * qk.natAbs, Nat.mul_ne_zero s0 hqa, by omega, fun j hj => ?_⟩
  obtain ⟨pj, epj, lpj⟩ := s2 j hj
  obtain ⟨qj, eqj, lqj⟩ := t2 j hj
  by_cases c : k ≤ j
  · refine ⟨qk.sign * (pj * qk - pk * qj), ?_, ?_⟩
    · simp only [if_pos c]
      rw [epj, epk, eqk, eqj]
      exact quot_eq s0 t0 hq
    · have e1 : (qk.sign * (pj * qk - pk * qj)).natAbs = (pj * qk - pk * qj).natAbs := by
        rw [Int.natAbs_mul, Int.natAbs_sign_of_ne_zero hq, Nat.one_mul]
      rw [e1]
      have e2 := Int.natAbs_sub_le (pj * qk) (pk * qj)
      rw [Int.natAbs_mul, Int.natAbs_mul] at e2
      have m1 := mul_lt_pow lpj lqk
      have m2 := mul_lt_pow lpk lqj
      have := two_lt_pow m1 m2
      rw [show B + B + 1 = 2 * B + 1 by omega] at this
      omega
  · refine ⟨pj * qk.natAbs, ?_, ?_⟩
    · simp only [if_neg c]
      rw [epj]
      exact (Rat.mkRat_mul_right hqa).symm
    · rw [Int.natAbs_mul, Int.natAbs_natCast]
      have := mul_lt_pow lpj lqk
      omega
def RowM (B : Nat) (a : Mx) (n c : Nat) : Prop := ∀ i, i < n → RowF B (a i) c
theorem RowM.mono {B B' n c : Nat} {a : Mx} (h : RowM B a n c) (hB : B ≤ B') : RowM B' a n c := fun i hi => (h i hi).mono hB
theorem RowM.fit {B n c : Nat} {a : Mx} (h : RowM B a n c) (hB : 0 < B) : FitM B a n c := fun i j hi hj => by
 obtain ⟨s, h1, h2, h3⟩ := h i hi
 obtain ⟨p, k1, k2⟩ := h3 j hj
 rw [k1]
 exact fits_mkRat k2 h2 hB
theorem FitM.row {m n c : Nat} {a : Mx} (h : FitM m a n c) : RowM (m * (c + 1) + 1) a n c := fun i hi => by
 obtain ⟨D, h1, h2, h3⟩ := cd_list (m := m) ((List.range c).map (a i)) (fun q hq => by
  obtain ⟨j, hj, rfl⟩ := List.mem_map.1 hq
  exact h i j hi (List.mem_range.1 hj))
 have hl : ((List.range c).map (a i)).length = c := by simp
 rw [hl] at h2 h3
 have e : m * (c + 1) = m * c + m := by rw [Nat.mul_succ]
 refine ⟨D, h1, Nat.lt_of_le_of_lt h2 (Nat.pow_lt_pow_right (by decide) (by omega)), fun j hj => ?_⟩
 obtain ⟨_, p, k1, k2⟩ := h3 (a i j) (List.mem_map.2 ⟨j, List.mem_range.2 hj, rfl⟩)
 exact ⟨p, k1, Nat.lt_of_le_of_lt k2 (Nat.pow_lt_pow_right (by decide) (by omega))⟩
theorem RowM.swp {B n c k p : Nat} {a : Mx} (h : RowM B a n c) (hk : k < n) (hp : p < n) : RowM B (swp a k p) n c := fun i hi => by
  rw [swp_row]; split
  · exact h p hp
  · split
    · exact h k hk
    · exact h i hi
theorem RowM.elmI {B n c k : Nat} {a : Mx} (h : RowM B a n c) (hk : k < n) (hc : k < c) (h0 : a k k ≠ 0) : RowM (2 * B + 1) (elmI a k) n c := fun i hi => by
  by_cases e : k < i
  · have : Go.Proofs.YtgfencjehdbjcaaGreatDoor.elmI a k i = fun j => if k ≤ j then a i j - a i k / a k k * a k j else a i j := by
      funext j; unfold Go.Proofs.YtgfencjehdbjcaaGreatDoor.elmI; simp only [e, true_and]
    rw [this]
    exact (h i hi).elm (h k hk) hc h0
  · have : Go.Proofs.YtgfencjehdbjcaaGreatDoor.elmI a k i = a i := by funext j; unfold Go.Proofs.YtgfencjehdbjcaaGreatDoor.elmI; rw [if_neg (fun h => e h.1)]
    rw [this]
    exact (h i hi).mono (by omega)
theorem RowM.elmS {B n c k : Nat} {a : Mx} (h : RowM B a n c) (hk : k < n) (hc : k < c) (h0 : a k k ≠ 0) : RowM (2 * B + 1) (elmS a k) n c := fun i hi => by
  by_cases e : i ≠ k
  · have : Go.Proofs.YtgfencjehdbjcaaGreatDoor.elmS a k i = fun j => if k ≤ j then a i j - a i k / a k k * a k j else a i j := by
      funext j; unfold Go.Proofs.YtgfencjehdbjcaaGreatDoor.elmS; simp only [e, ne_eq, not_false_eq_true, true_and]
    rw [this]
    exact (h i hi).elm (h k hk) hc h0
  · have : Go.Proofs.YtgfencjehdbjcaaGreatDoor.elmS a k i = a i := by funext j; unfold Go.Proofs.YtgfencjehdbjcaaGreatDoor.elmS; rw [if_neg (fun h => e h.1)]
    rw [this]
    exact (h i hi).mono (by omega)
def gB (m : Nat) : Nat → Nat
 | 0 => m
 | k + 1 => 2 * gB m k + 1
theorem gB_mono {m : Nat} : ∀ {k l : Nat}, k ≤ l → gB m k ≤ gB m l
  | k, 0, h => by obtain rfl : k = 0 := by omega
                  exact Nat.le_refl _
  | k, l + 1, h => by
    rcases Nat.lt_or_ge l k with h1 | h1
    · obtain rfl : k = l + 1 := by omega
      exact Nat.le_refl _
    · have := gB_mono (m := m) h1
      rw [gB]; omega
theorem swp_piv {a : Mx} {k n : Nat} (hk : k < n) (h : piv a k n ≠ n) : piv a k n < n ∧ swp a k (piv a k n) k k ≠ 0 := by
 obtain ⟨h1, h2, h3, h4⟩ := piv_spec (a := a) (k := k) (n := n) (by omega)
 refine ⟨by omega, ?_⟩
 rw [swp_row, if_pos rfl]
 exact h4 (by omega)
theorem gI_fit {a : Mx} {n m c : Nat} (ha : RowM m a n c) (hc : n ≤ c) : ∀ k, k ≤ n → ∀ u, gI a n k = some u → RowM (gB m k) u n c
  | 0, _, u, h => by simp only [gI, Option.some.injEq] at h; subst h; exact ha
  | k + 1, hk, u, h => by
    rw [gI] at h
    cases hv : gI a n k with
    | none => rw [hv] at h; cases h
    | some v =>
      rw [hv] at h
      simp only at h
      split at h
      · cases h
      · rename_i hne
        cases h
        obtain ⟨h1, h2⟩ := swp_piv (a := v) (k := k) (n := n) (by omega) hne
        exact ((gI_fit ha hc k (by omega) v hv).swp (by omega) h1).elmI (by omega) (by omega) h2
theorem gS_fit {a : Mx} {n m c : Nat} (ha : RowM m a n c) (hc : n ≤ c) : ∀ k, k ≤ n → ∀ u, gS a n k = some u → RowM (gB m k) u n c
  | 0, _, u, h => by simp only [gS, Option.some.injEq] at h; subst h; exact ha
  | k + 1, hk, u, h => by
    rw [gS] at h
    cases hv : gS a n k with
    | none => rw [hv] at h; cases h
    | some v =>
      rw [hv] at h
      simp only at h
      split at h
      · cases h
      · rename_i hne
        cases h
        obtain ⟨h1, h2⟩ := swp_piv (a := v) (k := k) (n := n) (by omega) hne
        exact ((gS_fit ha hc k (by omega) v hv).swp (by omega) h1).elmS (by omega) (by omega) h2
def bY (U : Nat) : Nat → Nat
 | 0 => 0
 | t + 1 => 2 * bY U t + 3 * U + 1
theorem bY_mono {U : Nat} : ∀ {s t : Nat}, s ≤ t → bY U s ≤ bY U t
  | s, 0, h => by obtain rfl : s = 0 := by omega
                  exact Nat.le_refl _
  | s, t + 1, h => by
    rcases Nat.lt_or_ge t s with h1 | h1
    · obtain rfl : s = t + 1 := by omega
      exact Nat.le_refl _
    · have := bY_mono (U := U) h1
      rw [bY]; omega
theorem sbX_fit {u : Mx} {n U t : Nat} {y : Nat → Rat} (hu : FitM U u n (n + 1)) (ht : t < n) (h0 : fits U (y (n - 1 - t))) (hy : ∀ j, n - t ≤ j → j < n → fits (2 * U + bY U (n - 1 - j)) (y j)) :
  ∀ m, m ≤ t → fits (U + (bY U t - bY U (t - m))) (sbX u y (n - 1 - t) m)
 | 0, _ => by rw [sbX, Nat.sub_zero, Nat.sub_self, Nat.add_zero]; exact h0
 | m + 1, hm => by
  have ih := sbX_fit hu ht h0 hy m (by omega)
  have h1 := hu (n - 1 - t) (n - 1 - t + 1 + m) (by omega) (by omega)
  have h2 := hy (n - 1 - t + 1 + m) (by omega) (by omega)
  rw [show n - 1 - (n - 1 - t + 1 + m) = t - (m + 1) by omega] at h2
  have h3 := fits_sub ih (fits_mul h1 h2 (fits_pos h1))
  have e : bY U (t - m) = 2 * bY U (t - (m + 1)) + 3 * U + 1 := by rw [show t - m = t - (m + 1) + 1 by omega, bY]
  have k1 : bY U (t - m) ≤ bY U t := bY_mono (by omega)
  rw [sbX]
  exact fits_mono h3 (by omega)
theorem bk_fit {u : Mx} {n U : Nat} (hu : FitM U u n (n + 1)) (hd : ∀ i, i < n → u i i ≠ 0) : ∀ t, t ≤ n → (∀ i, i < n → n - t ≤ i → fits (2 * U + bY U (n - 1 - i)) (bk u n t i)) ∧ ∀ i, i < n - t → fits U (bk u n t i)
  | 0, _ => ⟨fun i h1 h2 => by omega, fun i hi => by rw [bk]; exact hu i n (by omega) (by omega)⟩
  | t + 1, ht => by
    obtain ⟨h1, h2⟩ := bk_fit hu hd t (by omega)
    refine ⟨fun i hi hl => ?_, fun i hi => ?_⟩
    · rw [bk]
      simp only
      by_cases e : i = n - 1 - t
      · rw [if_pos e, e]
        have h3 := sbX_fit (y := bk u n t) hu (by omega : t < n) (h2 _ (by omega)) (fun j hj hjn => h1 j hjn hj) t (Nat.le_refl _)
        have h4 := fits_over h3 (hu (n - 1 - t) (n - 1 - t) (by omega) (by omega)) (ne_num (hd _ (by omega)))
        exact fits_mono h4 (by rw [show n - 1 - (n - 1 - t) = t by omega]; omega)
      · rw [if_neg e]; exact h1 i hi (by omega)
    · rw [bk]
      simp only
      rw [if_neg (by omega)]
      exact h2 i (by omega)
def upd2 (u : Mx) (i j : Nat) (v : Rat) : Mx := fun i' j' => if i' = i ∧ j' = j then v else u i' j'
theorem upd2_row {u : Mx} {i j c : Nat} {v : Rat} : (mapF c (u i)).set j v = mapF c (upd2 u i j v i) := by
  rw [mapF_set]
  refine mapF_congr fun k _ => ?_
  unfold upd2
  by_cases e : k = j
  · subst e; rw [if_pos rfl, if_pos ⟨rfl, rfl⟩]
  · rw [if_neg e, if_neg (fun h => e h.2)]
theorem upd2_other {u : Mx} {i j i' : Nat} {v : Rat} (h : i' ≠ i) : upd2 u i j v i' = u i' := by
 funext j'; unfold upd2; rw [if_neg (fun h' => h h'.1)]
theorem upd2_colset {u : Mx} {i j c : Nat} {v : Rat} : (mapF c (fun i' => u i' j)).set i v = mapF c (fun i' => upd2 u i j v i' j) := by
  rw [mapF_set]
  refine mapF_congr fun k _ => ?_
  unfold upd2
  by_cases e : k = i
  · subst e; rw [if_pos rfl, if_pos ⟨rfl, rfl⟩]
  · rw [if_neg e, if_neg (fun h => e h.1)]
def pel (u : Mx) (k : Nat) (s : Nat → Bool) (i j0 : Nat) : Mx := fun i' j' => if (s i' = true ∨ i' = i ∧ j' < j0) ∧ k ≤ j' then u i' j' - u i' k / u k k * u k j' else u i' j'
theorem pel_step {u : Mx} {k i j0 : Nat} {s : Nat → Bool} (hs : s i = false) (hk : k ≤ j0) : upd2 (pel u k s i j0) i j0 (u i j0 - u i k / u k k * u k j0) = pel u k s i (j0 + 1) := by
  funext i' j'
  unfold upd2 pel
  by_cases h : i' = i ∧ j' = j0
  · obtain ⟨rfl, rfl⟩ := h
    rw [if_pos ⟨rfl, rfl⟩, if_pos ⟨.inr ⟨rfl, by omega⟩, hk⟩]
  · rw [if_neg h]
    by_cases c : (s i' = true ∨ i' = i ∧ j' < j0) ∧ k ≤ j'
    · rw [if_pos c, if_pos ⟨c.1.imp id fun h => ⟨h.1, by omega⟩, c.2⟩]
    · rw [if_neg c, if_neg]
      rintro ⟨h1 | ⟨h1, h2⟩, h3⟩
      · exact c ⟨.inl h1, h3⟩
      · exact c ⟨.inr ⟨h1, by omega⟩, h3⟩
theorem pel_old {u : Mx} {k i j0 j : Nat} {s : Nat → Bool} (hs : s i = false) (hj : j0 ≤ j) : pel u k s i j0 i j = u i j := by
  unfold pel; rw [if_neg]
  rintro ⟨h1 | ⟨_, h2⟩, _⟩
  · rw [hs] at h1; cases h1
  · omega
theorem pel_pivot {u : Mx} {k i j0 : Nat} {s : Nat → Bool} (hs : s k = false) (hi : i ≠ k) : pel u k s i j0 k = u k := by
  funext j; unfold pel; rw [if_neg]
  rintro ⟨h1 | ⟨h2, _⟩, _⟩
  · rw [hs] at h1; cases h1
  · exact hi h2.symm
theorem pel_begin {u : Mx} {k i i2 : Nat} {s : Nat → Bool} : pel u k s i k = pel u k s i2 k := by
  funext i' j'
  unfold pel
  by_cases h : s i' = true ∧ k ≤ j'
  · rw [if_pos ⟨.inl h.1, h.2⟩, if_pos ⟨.inl h.1, h.2⟩]
  · rw [if_neg, if_neg] <;> rintro ⟨h1 | ⟨_, h2⟩, h3⟩ <;> first | exact h ⟨h1, h3⟩ | omega
theorem pel_done {u : Mx} {k i c : Nat} {s t : Nat → Bool} (ht : ∀ i', t i' = true ↔ (s i' = true ∨ i' = i)) (i' j' : Nat) (hj : j' < c) : pel u k s i c i' j' = pel u k t i k i' j' := by
  unfold pel
  by_cases h : (s i' = true ∨ i' = i) ∧ k ≤ j'
  · rw [if_pos ⟨h.1.imp id fun e => ⟨e, hj⟩, h.2⟩, if_pos ⟨.inl ((ht i').2 h.1), h.2⟩]
  · rw [if_neg, if_neg]
    · rintro ⟨h1 | ⟨_, h2⟩, h3⟩
      · exact h ⟨(ht i').1 h1, h3⟩
      · omega
    · rintro ⟨h1 | ⟨h1, _⟩, h3⟩
      · exact h ⟨.inl h1, h3⟩
      · exact h ⟨.inr h1, h3⟩
theorem pel_skip {u : Mx} {k i : Nat} {s t : Nat → Bool} (ht : ∀ i', t i' = true ↔ (s i' = true ∨ i' = i)) (h0 : u i k = 0) : pel u k s i k = pel u k t i k := by
  funext i' j'
  unfold pel
  by_cases h : s i' = true ∧ k ≤ j'
  · rw [if_pos ⟨.inl h.1, h.2⟩, if_pos ⟨.inl ((ht i').2 (.inl h.1)), h.2⟩]
  · rw [if_neg (by rintro ⟨h1 | ⟨_, h2⟩, h3⟩; exact h ⟨h1, h3⟩; omega)]
    by_cases e : i' = i ∧ k ≤ j'
    · obtain ⟨rfl, hk⟩ := e
      rw [if_pos ⟨.inl ((ht i').2 (.inr rfl)), hk⟩, h0]; grind
    · rw [if_neg]
      rintro ⟨h1 | ⟨_, h2⟩, h3⟩
      · rcases (ht i').1 h1 with h4 | h4
        · exact h ⟨h4, h3⟩
        · exact e ⟨h4, h3⟩
      · omega
theorem pel_first {u : Mx} {k i : Nat} : pel u k (fun _ => false) i k = u := by
  funext i' j'; unfold pel; rw [if_neg]; rintro ⟨h1 | ⟨_, h2⟩, h3⟩
  · cases h1
  · omega
structure MatH (T t : Nat) (L : List Rat → List AV) (h : Nat → Blk) (o : Nat) (rid : Nat → Nat) (n c : Nat) (u : Mx) (e1 e2 : Bool) : Prop where
 outer : h o = ⟨T, refsL rid n c, e2, true, true⟩
 row : ∀ i, i < n → h (rid i) = ⟨t, L (mapF c (u i)), e1, true, true⟩
 inj : ∀ i j, i < n → j < n → rid i = rid j → i = j
 apart : ∀ i, i < n → rid i ≠ o
section
variable {T t : Nat} {L : List Rat → List AV} {h : Nat → Blk} {o : Nat} {rid : Nat → Nat} {n c : Nat} {u w : Mx} {e1 e2 : Bool}
theorem MatH.put {i j : Nat} {v : Rat} {x : AV} (hL : (L (mapF c (u i))).set j x = L ((mapF c (u i)).set j v)) (hm : MatH T t L h o rid n c u e1 e2) (hi : i < n) :
    MatH T t L (upd h (rid i) ⟨t, (L (mapF c (u i))).set j x, e1, true, true⟩) o rid n c (upd2 u i j v) e1 e2 := by
  refine ⟨by rw [upd_app, if_neg (fun e => hm.apart i hi e.symm)]; exact hm.outer, fun k hk => ?_, hm.inj, hm.apart⟩
  rw [upd_app]
  by_cases e : rid k = rid i
  · obtain rfl := hm.inj k i hk hi e
    rw [if_pos rfl, hL, upd2_row]
  · rw [if_neg e, hm.row k hk, upd2_other (fun h => e (by rw [h]))]
theorem MatH.other {id : Nat} {b : Blk} (hm : MatH T t L h o rid n c u e1 e2) (ho : id ≠ o) (hr : ∀ i, i < n → id ≠ rid i) : MatH T t L (upd h id b) o rid n c u e1 e2 :=
 ⟨by rw [upd_app, if_neg (fun e => ho e.symm)]; exact hm.outer, fun k hk => by rw [upd_app, if_neg (fun e => hr k hk e.symm)]; exact hm.row k hk, hm.inj, hm.apart⟩
theorem MatH.congr (hm : MatH T t L h o rid n c u e1 e2) (he : ∀ i j, i < n → j < c → u i j = w i j) : MatH T t L h o rid n c w e1 e2 :=
 ⟨hm.outer, fun k hk => by rw [hm.row k hk, mapF_congr fun j hj => he k j hk hj], hm.inj, hm.apart⟩
theorem MatH.of_eq {h' : Nat → Blk} (hm : MatH T t L h o rid n c u e1 e2) (ho : h' o = h o) (hr : ∀ i, i < n → h' (rid i) = h (rid i)) : MatH T t L h' o rid n c u e1 e2 :=
 ⟨by rw [ho]; exact hm.outer, fun k hk => by rw [hr k hk]; exact hm.row k hk, hm.inj, hm.apart⟩
def swR (rid : Nat → Nat) (k p : Nat) : Nat → Nat := fun j => if j = p then rid k else if j = k then rid p else rid j
theorem swR_row {k p : Nat} (i : Nat) : swR rid k p i = rid (if i = p then k else if i = k then p else i) := by
  unfold swR; split
  · rfl
  · split <;> rfl
theorem MatH.swap {k p : Nat} (hm : MatH T t L h o rid n c u e1 e2) (hk : k < n) (hp : p < n) :
    MatH T t L (upd h o ⟨T, refsL (swR rid k p) n c, e2, true, true⟩) o (swR rid k p) n c (swp u k p) e1 e2 := by
  have hs : ∀ i, i < n → (if i = p then k else if i = k then p else i) < n := fun i hi => by split <;> (try split) <;> omega
  refine ⟨by rw [upd_app, if_pos rfl], fun i hi => ?_, fun i j hi hj e => ?_, fun i hi => ?_⟩
  · rw [swR_row, upd_app, if_neg (hm.apart _ (hs i hi)), hm.row _ (hs i hi), swp_row]
    have : (if i = p then k else if i = k then p else i) = if i = k then p else if i = p then k else i := by
      by_cases h1 : i = p <;> by_cases h2 : i = k <;> simp_all
    rw [this]
  · rw [swR_row, swR_row] at e
    have := hm.inj _ _ (hs i hi) (hs j hj) e
    by_cases h1 : i = p <;> by_cases h2 : i = k <;> by_cases h3 : j = p <;> by_cases h4 : j = k <;> simp_all
  · rw [swR_row]; exact hm.apart _ (hs i hi)
theorem swR_mem {k p : Nat} {S : List Nat} (hS : ∀ i, i < n → rid i ∈ S) (hk : k < n) (hp : p < n) : ∀ i, i < n → swR rid k p i ∈ S := fun i hi => by
 rw [swR_row]; exact hS _ (by split <;> (try split) <;> omega)
end
end Go.Proofs.YtgfencjehdbjcaaGreatDoor
