/- Part 7 of 11 of the proof that stands in YtogabejpbdmnnaaDoorM11. -/
import Derived.Test.YtogabejpbdmnnaaDoorChecked
import Derived.Lib.Bytealg
import Derived.Tactics
import Derived.WalkKit
import Derived.Below
import Derived.Shelf.Pu.ParseUintPublic10
import Derived.Ground.MpProg
import Derived.Test.YtogabejpbdmnnaaDoorProg
import Derived.Lib.AtoiErrMem
import Derived.Lib.ParseIntB
import Derived.Test.YtogabejpbdmnnaaDoorM6

set_option linter.unusedVariables false
set_option linter.unusedSimpArgs false

/- The reference's naturals: division. -/
set_option linter.unusedSimpArgs false
set_option linter.unusedVariables false
namespace Go.Proofs.YtogabejpbdmnnaaDoor
open Go

attribute [simp] natS_pure
theorem c_NatDiv : callable Tryd.prog 29 = true := by kernel_rfl
/-- The factor makes the greatest digit great. -/
theorem norm_half {B t m : Nat} (hB : B % 2 = 0) (ht : 0 < t) (htB : t < B) (hm : m = B / (t + 1)) : B ≤ 2 * (t * m) ∧ (t + 1) * m ≤ B ∧ 0 < m := by
  have h1 := Nat.div_add_mod B (t + 1)
  have h2 := Nat.mod_lt B (show 0 < t + 1 by omega)
  rw [← hm] at h1
  obtain ⟨r, hr⟩ : ∃ r, B % (t + 1) = r := ⟨_, rfl⟩
  rw [hr] at h1 h2
  have hm0 : 0 < m := by rw [hm]; exact Nat.div_pos (by omega) (by omega)
  refine ⟨?_, by omega, hm0⟩
  rw [Nat.add_mul, Nat.one_mul] at h1
  -- t * m + m + r = B
  by_cases hm1 : m = 1
  · subst hm1; omega
  · by_cases ht1 : t = 1
    · subst ht1; omega
    · obtain ⟨x, rfl⟩ : ∃ x, t = x + 2 := ⟨t - 2, by omega⟩
      obtain ⟨y, rfl⟩ : ∃ y, m = y + 2 := ⟨m - 2, by omega⟩
      have : (x + 2) * (y + 2) = x * y + 2 * x + 2 * y + 4 := by rw [Nat.add_mul, Nat.mul_add, Nat.mul_add]; omega
      omega
theorem snap_sl {st : St} {T : Nat} {xs : List Nat} {k : IntKind} {ex : Bool} {n : Nat} : snapA st n (.sl T (natA k xs) [] ex) = some (.sl T (natA k xs) [] ex, []) := snapA_pure (sl_pure ..)

theorem natS_zero : natS 0 = .sl 2 [] [] false := by simp [natS, enc_zero, natA]
theorem natA_nil {k : IntKind} : natA k [] = [] := rfl
/-- A function ends with slices of two private blocks. -/
theorem post_two_frozen {P : Program} {fn : Func} {n0 : Nat} {fl : Bool} {t u : Tmp} {id n len id2 n2 len2 T T2 : Nat} {r s : List AV} {st : St} {e : Ex} (he : e = .ret ∨ e = .normal) (hr : fn.results.toList = [.tmp t, .tmp u]) (hv : st.fr t = .ref id n 0 len) (hw : st.fr u = .ref id2 n2 0 len2)
    (hlv : (st.h id).lv = true) (hn : (st.h id).xs.length = n) (ht : (st.h id).t = T) (hl : len ≤ n) (hid : n0 ≤ id) (hxs : (st.h id).xs.take len = r) (hp : AV.pureL r = true)
    (hlv2 : (st.h id2).lv = true) (hn2 : (st.h id2).xs.length = n2) (ht2 : (st.h id2).t = T2) (hl2 : len2 ≤ n2) (hid2 : n0 ≤ id2) (hxs2 : (st.h id2).xs.take len2 = s) (hp2 : AV.pureL s = true) :
    Post P fn n0 fl false (.tup [.sl T r [] false, .sl T2 s [] false]) [] e st :=
  post_tup he hr hv hw (snap_frozen (d := 6) hlv hn ht (by omega) (by rw [List.drop_zero]; exact hxs) hp) (snap_frozen (d := 6) hlv2 hn2 ht2 (by omega) (by rw [List.drop_zero]; exact hxs2) hp2)
    (by intro a ha; simp at ha; rcases ha with rfl | rfl <;> assumption) (.inl rfl)

theorem InOk.re {P : Program} {fr : Nat → AV} {h h' : Nat → Blk} {nx nx' : Nat} {g : FuncId} {al : List AV} {x : AV} (hi : InOk P ⟨fr, h, nx⟩ g al x ⟨fr, h', nx'⟩) (fr2 : Nat → AV) : InOk P ⟨fr2, h, nx⟩ g al x ⟨fr2, h', nx'⟩ := ⟨rfl, hi.2⟩
theorem off_lt {W Bn d V Y : Nat} (h : W < d * V) (hY : W + Bn - d * V = Y) (h0 : 0 < Bn := by exact Nat.pow_pos (by decide)) : Y < Bn := by omega
theorem off_ge {W Bn d V Y r : Nat} (hle : d * V ≤ W + V) (hr : W + V - d * V = r) (h : W < d * V) (hV : V < Bn) (hY : W + Bn - d * V = Y) : Bn ≤ Y + V ∧ Y + V - Bn = r := by omega
set_option maxHeartbeats 2000000 in
theorem s_NatDiv (a b : Nat) (ha : (enc B9 a).length ≤ 1099511627775) (hb0 : b ≠ 0) (hb : (enc B9 b).length ≤ 1099511627775) : CallOk Tryd.prog 29 [natS a, natS b] (.tup [natS (a / b), natS (a % b)]) [] := by
  have hSa := s_Small hm' a (by omega)
  have hSb := s_Small hm' b (by omega)
  simp only [smallS] at hSa hSb
  have hB : B9 = 1000000000 := rfl
  have hbi : ¬ (b : Int) = 0 := by omega
  by_cases hsm : a < 1000000000000000000 ∧ b < 1000000000000000000
  · obtain ⟨h1, h2⟩ := hsm
    rw [if_pos h1] at hSa
    rw [if_pos h2] at hSb
    have hq : a / b ≤ a := Nat.div_le_self _ _
    have hr : a % b < b := Nat.mod_lt _ (by omega)
    obtain ⟨q, hq'⟩ : ∃ q, a / b = q := ⟨_, rfl⟩
    obtain ⟨r, hr'⟩ : ∃ r, a % b = r := ⟨_, rfl⟩
    rw [hq'] at hq
    rw [hr'] at hr
    rw [hq', hr']
    (refine callOk_of_wpc (W := fun g => g == 28 || g == 41 || g == 42 || g == 43) false hm' Tryd.func29 rfl (by kernel_rfl) (Nat.le_of_ble_eq_true rfl) (go_start ?_); generalize hQ : Post Tryd.prog Tryd.f29 _ _ _ _ _ = Q; simp only [stIn, matL, matA, st00, natS])
    simp (disch := omega) only [go_sem, ↓k_cond, ↓x_idx, ↓k_block, Nat.reduceEqDiff, ↓reduceIte, reduceCtorEq, if_pos, if_neg, decide_eq_true, decide_eq_false, beqT, beqF, bneT, bneF, wrapI, wrapU32, wrapU64, wrapU8, nc_add, nc_addL, nc_addR, nc_mul, nc_mulL, nc_mulR, nc_div, nc_divL, nc_mod, nc_modL, nc_1, nc_sub1, natA_at, natA_put, eatH_one, Int.toNat_natCast, Option.map_some, shr32, shl32, List.getD_cons_zero, List.getD_cons_succ, List.length_set, List.set_cons_zero, List.set_cons_succ]
    refine x_callP (hSa) c_Small (by simp [evA, upd_app, ofVal, ofCell, natS]) (by simp [AV.pure, AV.pureL, natA_pure, natI_pure, natS_pure]) (by simp [AV.pure, AV.pureL, natA_pure, natI_pure, natS_pure]) ?_
    simp (disch := omega) only [go_sem, ↓k_cond, ↓x_idx, ↓k_block, Nat.reduceEqDiff, ↓reduceIte, reduceCtorEq, if_pos, if_neg, decide_eq_true, decide_eq_false, beqT, beqF, bneT, bneF, wrapI, wrapU32, wrapU64, wrapU8, nc_add, nc_addL, nc_addR, nc_mul, nc_mulL, nc_mulR, nc_div, nc_divL, nc_mod, nc_modL, nc_1, nc_sub1, natA_at, natA_put, eatH_one, Int.toNat_natCast, Option.map_some, shr32, shl32, List.getD_cons_zero, List.getD_cons_succ, List.length_set, List.set_cons_zero, List.set_cons_succ]
    refine x_callP (hSb) c_Small (by simp [evA, upd_app, ofVal, ofCell, natS]) (by simp [AV.pure, AV.pureL, natA_pure, natI_pure, natS_pure]) (by simp [AV.pure, AV.pureL, natA_pure, natI_pure, natS_pure]) ?_
    simp (disch := omega) only [go_sem, ↓k_cond, ↓x_idx, ↓k_block, Nat.reduceEqDiff, ↓reduceIte, reduceCtorEq, if_pos, if_neg, decide_eq_true, decide_eq_false, beqT, beqF, bneT, bneF, wrapI, wrapU32, wrapU64, wrapU8, nc_add, nc_addL, nc_addR, nc_mul, nc_mulL, nc_mulR, nc_div, nc_divL, nc_mod, nc_modL, nc_1, nc_sub1, natA_at, natA_put, eatH_one, Int.toNat_natCast, Option.map_some, shr32, shl32, List.getD_cons_zero, List.getD_cons_succ, List.length_set, List.set_cons_zero, List.set_cons_succ, hbi, hq', hr']
    refine x_callP (s_Nat hm' q (by omega)) c_Nat (by simp [evA, upd_app, ofVal, ofCell]) (by simp [AV.pure, AV.pureL, natA_pure, natI_pure, natS_pure]) (by simp [AV.pure, AV.pureL, natA_pure, natI_pure, natS_pure]) ?_
    simp (disch := omega) only [go_sem, ↓k_cond, ↓x_idx, ↓k_block, Nat.reduceEqDiff, ↓reduceIte, reduceCtorEq, if_pos, if_neg, decide_eq_true, decide_eq_false, beqT, beqF, bneT, bneF, wrapI, wrapU32, wrapU64, wrapU8, nc_add, nc_addL, nc_addR, nc_mul, nc_mulL, nc_mulR, nc_div, nc_divL, nc_mod, nc_modL, nc_1, nc_sub1, natA_at, natA_put, eatH_one, Int.toNat_natCast, Option.map_some, shr32, shl32, List.getD_cons_zero, List.getD_cons_succ, List.length_set, List.set_cons_zero, List.set_cons_succ, hbi, hq', hr']
    refine x_callP (s_Nat hm' r (by omega)) c_Nat (by simp [evA, upd_app, ofVal, ofCell]) (by simp [AV.pure, AV.pureL, natA_pure, natI_pure, natS_pure]) (by simp [AV.pure, AV.pureL, natA_pure, natI_pure, natS_pure]) ?_
    simp (disch := omega) only [go_sem, ↓k_cond, ↓x_idx, ↓k_block, Nat.reduceEqDiff, ↓reduceIte, reduceCtorEq, if_pos, if_neg, decide_eq_true, decide_eq_false, beqT, beqF, bneT, bneF, wrapI, wrapU32, wrapU64, wrapU8, nc_add, nc_addL, nc_addR, nc_mul, nc_mulL, nc_mulR, nc_div, nc_divL, nc_mod, nc_modL, nc_1, nc_sub1, natA_at, natA_put, eatH_one, Int.toNat_natCast, Option.map_some, shr32, shl32, List.getD_cons_zero, List.getD_cons_succ, List.length_set, List.set_cons_zero, List.set_cons_succ]
    rw [← hQ]
    exact post_two (.inl rfl) rfl (by first | (simp only [upd_app, ↓reduceIte, Nat.reduceEqDiff, natS]; done) | (simp [upd_app, natS]; done) | (simp [upd_app, natS]; omega)) (by first | (simp only [upd_app, ↓reduceIte, Nat.reduceEqDiff, natS]; done) | (simp [upd_app, natS]; done) | (simp [upd_app, natS]; omega)) (by simp) (by simp)
  have cs_Cmp := c_Cmp
  by_cases hsa : a < 1000000000000000000
  · have hab : a < b := by omega
    rw [if_pos hsa] at hSa
    rw [if_neg (by omega)] at hSb

    have hcc := cmpI_lt hab
    have e1 : a / b = 0 := Nat.div_eq_of_lt hab
    have e2 : a % b = a := Nat.mod_eq_of_lt hab
    rw [e1, e2]
    (refine callOk_of_wpc (W := fun g => g == 28 || g == 41 || g == 42 || g == 43) false hm' Tryd.func29 rfl (by kernel_rfl) (Nat.le_of_ble_eq_true rfl) (go_start ?_); generalize hQ : Post Tryd.prog Tryd.f29 _ _ _ _ _ = Q; simp only [stIn, matL, matA, st00, natS])
    simp (disch := omega) only [go_sem, ↓k_cond, ↓x_idx, ↓k_block, Nat.reduceEqDiff, ↓reduceIte, reduceCtorEq, if_pos, if_neg, decide_eq_true, decide_eq_false, beqT, beqF, bneT, bneF, wrapI, wrapU32, wrapU64, wrapU8, nc_add, nc_addL, nc_addR, nc_mul, nc_mulL, nc_mulR, nc_div, nc_divL, nc_mod, nc_modL, nc_1, nc_sub1, natA_at, natA_put, eatH_one, Int.toNat_natCast, Option.map_some, shr32, shl32, List.getD_cons_zero, List.getD_cons_succ, List.length_set, List.set_cons_zero, List.set_cons_succ]
    refine x_callP (hSa) c_Small (by simp [evA, upd_app, ofVal, ofCell, natS]) (by simp [AV.pure, AV.pureL, natA_pure, natI_pure, natS_pure]) (by simp [AV.pure, AV.pureL, natA_pure, natI_pure, natS_pure]) ?_
    simp (disch := omega) only [go_sem, ↓k_cond, ↓x_idx, ↓k_block, Nat.reduceEqDiff, ↓reduceIte, reduceCtorEq, if_pos, if_neg, decide_eq_true, decide_eq_false, beqT, beqF, bneT, bneF, wrapI, wrapU32, wrapU64, wrapU8, nc_add, nc_addL, nc_addR, nc_mul, nc_mulL, nc_mulR, nc_div, nc_divL, nc_mod, nc_modL, nc_1, nc_sub1, natA_at, natA_put, eatH_one, Int.toNat_natCast, Option.map_some, shr32, shl32, List.getD_cons_zero, List.getD_cons_succ, List.length_set, List.set_cons_zero, List.set_cons_succ]
    refine x_callP (hSb) c_Small (by simp [evA, upd_app, ofVal, ofCell, natS]) (by simp [AV.pure, AV.pureL, natA_pure, natI_pure, natS_pure]) (by simp [AV.pure, AV.pureL, natA_pure, natI_pure, natS_pure]) ?_
    simp (disch := omega) only [go_sem, ↓k_cond, ↓x_idx, ↓k_block, Nat.reduceEqDiff, ↓reduceIte, reduceCtorEq, if_pos, if_neg, decide_eq_true, decide_eq_false, beqT, beqF, bneT, bneF, wrapI, wrapU32, wrapU64, wrapU8, nc_add, nc_addL, nc_addR, nc_mul, nc_mulL, nc_mulR, nc_div, nc_divL, nc_mod, nc_modL, nc_1, nc_sub1, natA_at, natA_put, eatH_one, Int.toNat_natCast, Option.map_some, shr32, shl32, List.getD_cons_zero, List.getD_cons_succ, List.length_set, List.set_cons_zero, List.set_cons_succ]
    refine x_callP (s_Cmp hm' a b (by omega) (by omega)) cs_Cmp (by simp [evA, upd_app, ofVal, ofCell, natS]) (by simp [AV.pure, AV.pureL, natA_pure, natI_pure, natS_pure]) (by simp [AV.pure, AV.pureL, natA_pure, natI_pure, natS_pure]) ?_
    simp (disch := omega) only [go_sem, ↓k_cond, ↓x_idx, ↓k_block, Nat.reduceEqDiff, ↓reduceIte, reduceCtorEq, if_pos, if_neg, decide_eq_true, decide_eq_false, beqT, beqF, bneT, bneF, wrapI, wrapU32, wrapU64, wrapU8, nc_add, nc_addL, nc_addR, nc_mul, nc_mulL, nc_mulR, nc_div, nc_divL, nc_mod, nc_modL, nc_1, nc_sub1, natA_at, natA_put, eatH_one, Int.toNat_natCast, Option.map_some, shr32, shl32, List.getD_cons_zero, List.getD_cons_succ, List.length_set, List.set_cons_zero, List.set_cons_succ, hcc]
    rcases Nat.eq_zero_or_pos (enc B9 a).length with h0 | h0
    · have h00 := List.length_eq_zero_iff.1 h0
      simp (disch := omega) only [go_sem, ↓k_cond, ↓x_idx, ↓k_block, Nat.reduceEqDiff, ↓reduceIte, reduceCtorEq, if_pos, if_neg, decide_eq_true, decide_eq_false, beqT, beqF, bneT, bneF, wrapI, wrapU32, wrapU64, wrapU8, nc_add, nc_addL, nc_addR, nc_mul, nc_mulL, nc_mulR, nc_div, nc_divL, nc_mod, nc_modL, nc_1, nc_sub1, natA_at, natA_put, eatH_one, Int.toNat_natCast, Option.map_some, shr32, shl32, List.getD_cons_zero, List.getD_cons_succ, List.length_set, List.set_cons_zero, List.set_cons_succ, h00, natA_nil, reach]
      rw [← hQ, natS_zero, natS, h00]
      exact post_two_frozen (id := 0) (n := 0) (len := 0) (id2 := 1) (n2 := 0) (len2 := 0) (.inl rfl) rfl (by first | (simp only [upd_app, ↓reduceIte, Nat.reduceEqDiff]; done) | (simp [upd_app]; done) | (simp [upd_app]; omega)) (by first | (simp only [upd_app, ↓reduceIte, Nat.reduceEqDiff]; done) | (simp [upd_app]; done) | (simp [upd_app]; omega)) (by simp [upd_app]) (by simp [upd_app]) (by simp [upd_app]) (Nat.le_refl _) (Nat.zero_le _) (by simp [upd_app]) rfl (by simp [upd_app]) (by simp [upd_app]) (by simp [upd_app]) (Nat.le_refl _) (Nat.zero_le _) (by simp [upd_app, natA_nil]) rfl
    · obtain ⟨na, hna⟩ : ∃ na, (enc B9 a).length = na := ⟨_, rfl⟩
      simp (disch := omega) only [go_sem, ↓k_cond, ↓x_idx, ↓k_block, Nat.reduceEqDiff, ↓reduceIte, reduceCtorEq, if_pos, if_neg, decide_eq_true, decide_eq_false, beqT, beqF, bneT, bneF, wrapI, wrapU32, wrapU64, wrapU8, nc_add, nc_addL, nc_addR, nc_mul, nc_mulL, nc_mulR, nc_div, nc_divL, nc_mod, nc_modL, nc_1, nc_sub1, natA_at, natA_put, eatH_one, Int.toNat_natCast, Option.map_some, shr32, shl32, List.getD_cons_zero, List.getD_cons_succ, List.length_set, List.set_cons_zero, List.set_cons_succ, reach, hna, List.nil_append]
      rw [← hQ, natS_zero, natS]
      exact post_two_frozen (id := 0) (n := 0) (len := 0) (id2 := 1) (n2 := na) (len2 := na) (.inl rfl) rfl (by first | (simp only [upd_app, ↓reduceIte, Nat.reduceEqDiff]; done) | (simp [upd_app]; done) | (simp [upd_app]; omega)) (by first | (simp only [upd_app, ↓reduceIte, Nat.reduceEqDiff]; done) | (simp [upd_app]; done) | (simp [upd_app]; omega)) (by simp [upd_app]) (by simp [upd_app]) (by simp [upd_app]) (Nat.le_refl _) (Nat.zero_le _) (by simp [upd_app]) rfl (by simp [upd_app]) (by simp [upd_app, natA_length, hna]) (by simp [upd_app]) (Nat.le_refl _) (Nat.zero_le _) (by simp [upd_app, natA_take]; rw [List.take_of_length_le (by omega)]) (natA_pure _ _)
  rw [if_neg hsa] at hSa
  obtain ⟨y2, o2, hSb⟩ : ∃ (y2 : Nat) (o2 : Bool), CallOk Tryd.prog 38 [natS b] (.tup [.int .i64 y2, .bool o2]) [] := by
    by_cases h : b < 1000000000000000000
    · rw [if_pos h] at hSb; exact ⟨b, true, hSb⟩
    · rw [if_neg h] at hSb; exact ⟨0, false, hSb⟩
  by_cases hab : a < b
  · have hcc := cmpI_lt hab
    have e1 : a / b = 0 := Nat.div_eq_of_lt hab
    have e2 : a % b = a := Nat.mod_eq_of_lt hab
    rw [e1, e2]
    (refine callOk_of_wpc (W := fun g => g == 28 || g == 41 || g == 42 || g == 43) false hm' Tryd.func29 rfl (by kernel_rfl) (Nat.le_of_ble_eq_true rfl) (go_start ?_); generalize hQ : Post Tryd.prog Tryd.f29 _ _ _ _ _ = Q; simp only [stIn, matL, matA, st00, natS])
    simp (disch := omega) only [go_sem, ↓k_cond, ↓x_idx, ↓k_block, Nat.reduceEqDiff, ↓reduceIte, reduceCtorEq, if_pos, if_neg, decide_eq_true, decide_eq_false, beqT, beqF, bneT, bneF, wrapI, wrapU32, wrapU64, wrapU8, nc_add, nc_addL, nc_addR, nc_mul, nc_mulL, nc_mulR, nc_div, nc_divL, nc_mod, nc_modL, nc_1, nc_sub1, natA_at, natA_put, eatH_one, Int.toNat_natCast, Option.map_some, shr32, shl32, List.getD_cons_zero, List.getD_cons_succ, List.length_set, List.set_cons_zero, List.set_cons_succ]
    refine x_callP (hSa) c_Small (by simp [evA, upd_app, ofVal, ofCell, natS]) (by simp [AV.pure, AV.pureL, natA_pure, natI_pure, natS_pure]) (by simp [AV.pure, AV.pureL, natA_pure, natI_pure, natS_pure]) ?_
    simp (disch := omega) only [go_sem, ↓k_cond, ↓x_idx, ↓k_block, Nat.reduceEqDiff, ↓reduceIte, reduceCtorEq, if_pos, if_neg, decide_eq_true, decide_eq_false, beqT, beqF, bneT, bneF, wrapI, wrapU32, wrapU64, wrapU8, nc_add, nc_addL, nc_addR, nc_mul, nc_mulL, nc_mulR, nc_div, nc_divL, nc_mod, nc_modL, nc_1, nc_sub1, natA_at, natA_put, eatH_one, Int.toNat_natCast, Option.map_some, shr32, shl32, List.getD_cons_zero, List.getD_cons_succ, List.length_set, List.set_cons_zero, List.set_cons_succ]
    refine x_callP (hSb) c_Small (by simp [evA, upd_app, ofVal, ofCell, natS]) (by simp [AV.pure, AV.pureL, natA_pure, natI_pure, natS_pure]) (by simp [AV.pure, AV.pureL, natA_pure, natI_pure, natS_pure]) ?_
    simp (disch := omega) only [go_sem, ↓k_cond, ↓x_idx, ↓k_block, Nat.reduceEqDiff, ↓reduceIte, reduceCtorEq, if_pos, if_neg, decide_eq_true, decide_eq_false, beqT, beqF, bneT, bneF, wrapI, wrapU32, wrapU64, wrapU8, nc_add, nc_addL, nc_addR, nc_mul, nc_mulL, nc_mulR, nc_div, nc_divL, nc_mod, nc_modL, nc_1, nc_sub1, natA_at, natA_put, eatH_one, Int.toNat_natCast, Option.map_some, shr32, shl32, List.getD_cons_zero, List.getD_cons_succ, List.length_set, List.set_cons_zero, List.set_cons_succ]
    refine x_callP (s_Cmp hm' a b (by omega) (by omega)) cs_Cmp (by simp [evA, upd_app, ofVal, ofCell, natS]) (by simp [AV.pure, AV.pureL, natA_pure, natI_pure, natS_pure]) (by simp [AV.pure, AV.pureL, natA_pure, natI_pure, natS_pure]) ?_
    simp (disch := omega) only [go_sem, ↓k_cond, ↓x_idx, ↓k_block, Nat.reduceEqDiff, ↓reduceIte, reduceCtorEq, if_pos, if_neg, decide_eq_true, decide_eq_false, beqT, beqF, bneT, bneF, wrapI, wrapU32, wrapU64, wrapU8, nc_add, nc_addL, nc_addR, nc_mul, nc_mulL, nc_mulR, nc_div, nc_divL, nc_mod, nc_modL, nc_1, nc_sub1, natA_at, natA_put, eatH_one, Int.toNat_natCast, Option.map_some, shr32, shl32, List.getD_cons_zero, List.getD_cons_succ, List.length_set, List.set_cons_zero, List.set_cons_succ, hcc]
    rcases Nat.eq_zero_or_pos (enc B9 a).length with h0 | h0
    · have h00 := List.length_eq_zero_iff.1 h0
      simp (disch := omega) only [go_sem, ↓k_cond, ↓x_idx, ↓k_block, Nat.reduceEqDiff, ↓reduceIte, reduceCtorEq, if_pos, if_neg, decide_eq_true, decide_eq_false, beqT, beqF, bneT, bneF, wrapI, wrapU32, wrapU64, wrapU8, nc_add, nc_addL, nc_addR, nc_mul, nc_mulL, nc_mulR, nc_div, nc_divL, nc_mod, nc_modL, nc_1, nc_sub1, natA_at, natA_put, eatH_one, Int.toNat_natCast, Option.map_some, shr32, shl32, List.getD_cons_zero, List.getD_cons_succ, List.length_set, List.set_cons_zero, List.set_cons_succ, h00, natA_nil, reach]
      rw [← hQ, natS_zero, natS, h00]
      exact post_two_frozen (id := 0) (n := 0) (len := 0) (id2 := 1) (n2 := 0) (len2 := 0) (.inl rfl) rfl (by first | (simp only [upd_app, ↓reduceIte, Nat.reduceEqDiff]; done) | (simp [upd_app]; done) | (simp [upd_app]; omega)) (by first | (simp only [upd_app, ↓reduceIte, Nat.reduceEqDiff]; done) | (simp [upd_app]; done) | (simp [upd_app]; omega)) (by simp [upd_app]) (by simp [upd_app]) (by simp [upd_app]) (Nat.le_refl _) (Nat.zero_le _) (by simp [upd_app]) rfl (by simp [upd_app]) (by simp [upd_app]) (by simp [upd_app]) (Nat.le_refl _) (Nat.zero_le _) (by simp [upd_app, natA_nil]) rfl
    · obtain ⟨na, hna⟩ : ∃ na, (enc B9 a).length = na := ⟨_, rfl⟩
      simp (disch := omega) only [go_sem, ↓k_cond, ↓x_idx, ↓k_block, Nat.reduceEqDiff, ↓reduceIte, reduceCtorEq, if_pos, if_neg, decide_eq_true, decide_eq_false, beqT, beqF, bneT, bneF, wrapI, wrapU32, wrapU64, wrapU8, nc_add, nc_addL, nc_addR, nc_mul, nc_mulL, nc_mulR, nc_div, nc_divL, nc_mod, nc_modL, nc_1, nc_sub1, natA_at, natA_put, eatH_one, Int.toNat_natCast, Option.map_some, shr32, shl32, List.getD_cons_zero, List.getD_cons_succ, List.length_set, List.set_cons_zero, List.set_cons_succ, reach, hna, List.nil_append]
      rw [← hQ, natS_zero, natS]
      exact post_two_frozen (id := 0) (n := 0) (len := 0) (id2 := 1) (n2 := na) (len2 := na) (.inl rfl) rfl (by first | (simp only [upd_app, ↓reduceIte, Nat.reduceEqDiff]; done) | (simp [upd_app]; done) | (simp [upd_app]; omega)) (by first | (simp only [upd_app, ↓reduceIte, Nat.reduceEqDiff]; done) | (simp [upd_app]; done) | (simp [upd_app]; omega)) (by simp [upd_app]) (by simp [upd_app]) (by simp [upd_app]) (Nat.le_refl _) (Nat.zero_le _) (by simp [upd_app]) rfl (by simp [upd_app]) (by simp [upd_app, natA_length, hna]) (by simp [upd_app]) (Nat.le_refl _) (Nat.zero_le _) (by simp [upd_app, natA_take]; rw [List.take_of_length_le (by omega)]) (natA_pure _ _)
  by_cases hb1 : (enc B9 b).length = 1
  · obtain ⟨d, hd⟩ := get_some (xs := enc B9 b) (i := 0) (by omega)
    have hdB := enc_lt B9_gt b d (List.mem_of_getElem? hd)
    have hbd : b = d := by
      have h1 := drop_cons hd
      rw [List.drop_zero, List.drop_eq_nil_of_le (by omega)] at h1
      have := val_enc B9_gt b
      rw [h1] at this; simpa [val] using this.symm
    have hd0 : 0 < d := by omega
    have hnc : ¬ cmpI a b < 0 := by simp only [cmpI]; rw [if_neg hab]; split <;> omega
    have hn0 : (enc B9 b)[Int.toNat 0]? = some d := hd
    rw [hB] at hdB
    obtain ⟨r, hr⟩ : ∃ r, a % d = r := ⟨_, rfl⟩
    have hrd : r < d := hr ▸ Nat.mod_lt _ hd0
    have hSD := s_ShortDiv hm' a d (by omega) hd0 (by omega)
    rw [hr] at hSD
    (refine callOk_of_wpc (W := fun g => g == 28 || g == 41 || g == 42 || g == 43) false hm' Tryd.func29 rfl (by kernel_rfl) (Nat.le_of_ble_eq_true rfl) (go_start ?_); generalize hQ : Post Tryd.prog Tryd.f29 _ _ _ _ _ = Q; simp only [stIn, matL, matA, st00, natS])
    simp (disch := omega) only [go_sem, ↓k_cond, ↓x_idx, ↓k_block, Nat.reduceEqDiff, ↓reduceIte, reduceCtorEq, if_pos, if_neg, decide_eq_true, decide_eq_false, beqT, beqF, bneT, bneF, wrapI, wrapU32, wrapU64, wrapU8, nc_add, nc_addL, nc_addR, nc_mul, nc_mulL, nc_mulR, nc_div, nc_divL, nc_mod, nc_modL, nc_1, nc_sub1, natA_at, natA_put, eatH_one, Int.toNat_natCast, Option.map_some, shr32, shl32, List.getD_cons_zero, List.getD_cons_succ, List.length_set, List.set_cons_zero, List.set_cons_succ]
    refine x_callP (hSa) c_Small (by simp [evA, upd_app, ofVal, ofCell, natS]) (by simp [AV.pure, AV.pureL, natA_pure, natI_pure, natS_pure]) (by simp [AV.pure, AV.pureL, natA_pure, natI_pure, natS_pure]) ?_
    simp (disch := omega) only [go_sem, ↓k_cond, ↓x_idx, ↓k_block, Nat.reduceEqDiff, ↓reduceIte, reduceCtorEq, if_pos, if_neg, decide_eq_true, decide_eq_false, beqT, beqF, bneT, bneF, wrapI, wrapU32, wrapU64, wrapU8, nc_add, nc_addL, nc_addR, nc_mul, nc_mulL, nc_mulR, nc_div, nc_divL, nc_mod, nc_modL, nc_1, nc_sub1, natA_at, natA_put, eatH_one, Int.toNat_natCast, Option.map_some, shr32, shl32, List.getD_cons_zero, List.getD_cons_succ, List.length_set, List.set_cons_zero, List.set_cons_succ]
    refine x_callP (hSb) c_Small (by simp [evA, upd_app, ofVal, ofCell, natS]) (by simp [AV.pure, AV.pureL, natA_pure, natI_pure, natS_pure]) (by simp [AV.pure, AV.pureL, natA_pure, natI_pure, natS_pure]) ?_
    simp (disch := omega) only [go_sem, ↓k_cond, ↓x_idx, ↓k_block, Nat.reduceEqDiff, ↓reduceIte, reduceCtorEq, if_pos, if_neg, decide_eq_true, decide_eq_false, beqT, beqF, bneT, bneF, wrapI, wrapU32, wrapU64, wrapU8, nc_add, nc_addL, nc_addR, nc_mul, nc_mulL, nc_mulR, nc_div, nc_divL, nc_mod, nc_modL, nc_1, nc_sub1, natA_at, natA_put, eatH_one, Int.toNat_natCast, Option.map_some, shr32, shl32, List.getD_cons_zero, List.getD_cons_succ, List.length_set, List.set_cons_zero, List.set_cons_succ]
    refine x_callP (s_Cmp hm' a b (by omega) (by omega)) cs_Cmp (by simp [evA, upd_app, ofVal, ofCell, natS]) (by simp [AV.pure, AV.pureL, natA_pure, natI_pure, natS_pure]) (by simp [AV.pure, AV.pureL, natA_pure, natI_pure, natS_pure]) ?_
    simp (disch := omega) only [go_sem, ↓k_cond, ↓x_idx, ↓k_block, Nat.reduceEqDiff, ↓reduceIte, reduceCtorEq, if_pos, if_neg, decide_eq_true, decide_eq_false, beqT, beqF, bneT, bneF, wrapI, wrapU32, wrapU64, wrapU8, nc_add, nc_addL, nc_addR, nc_mul, nc_mulL, nc_mulR, nc_div, nc_divL, nc_mod, nc_modL, nc_1, nc_sub1, natA_at, natA_put, eatH_one, Int.toNat_natCast, Option.map_some, shr32, shl32, List.getD_cons_zero, List.getD_cons_succ, List.length_set, List.set_cons_zero, List.set_cons_succ, hb1, hn0]
    refine x_callP (hSD) c_ShortDiv (by simp [evA, upd_app, ofVal, ofCell, natS]) (by simp [AV.pure, AV.pureL, natA_pure, natI_pure, natS_pure]) (by simp [AV.pure, AV.pureL, natA_pure, natI_pure, natS_pure]) ?_
    simp (disch := omega) only [go_sem, ↓k_cond, ↓x_idx, ↓k_block, Nat.reduceEqDiff, ↓reduceIte, reduceCtorEq, if_pos, if_neg, decide_eq_true, decide_eq_false, beqT, beqF, bneT, bneF, wrapI, wrapU32, wrapU64, wrapU8, nc_add, nc_addL, nc_addR, nc_mul, nc_mulL, nc_mulR, nc_div, nc_divL, nc_mod, nc_modL, nc_1, nc_sub1, natA_at, natA_put, eatH_one, Int.toNat_natCast, Option.map_some, shr32, shl32, List.getD_cons_zero, List.getD_cons_succ, List.length_set, List.set_cons_zero, List.set_cons_succ]
    refine x_callP (s_Nat hm' r (by omega)) c_Nat (by simp [evA, upd_app, ofVal, ofCell, natS]) (by simp [AV.pure, AV.pureL, natA_pure, natI_pure, natS_pure]) (by simp [AV.pure, AV.pureL, natA_pure, natI_pure, natS_pure]) ?_
    simp (disch := omega) only [go_sem, ↓k_cond, ↓x_idx, ↓k_block, Nat.reduceEqDiff, ↓reduceIte, reduceCtorEq, if_pos, if_neg, decide_eq_true, decide_eq_false, beqT, beqF, bneT, bneF, wrapI, wrapU32, wrapU64, wrapU8, nc_add, nc_addL, nc_addR, nc_mul, nc_mulL, nc_mulR, nc_div, nc_divL, nc_mod, nc_modL, nc_1, nc_sub1, natA_at, natA_put, eatH_one, Int.toNat_natCast, Option.map_some, shr32, shl32, List.getD_cons_zero, List.getD_cons_succ, List.length_set, List.set_cons_zero, List.set_cons_succ]
    rw [← hQ]
    exact post_two (.inl rfl) rfl (by first | (simp only [upd_app, ↓reduceIte, Nat.reduceEqDiff, natS, hbd]; done) | (simp [upd_app, natS, hbd]; done) | (simp [upd_app, natS, hbd]; omega)) (by first | (simp only [upd_app, ↓reduceIte, Nat.reduceEqDiff, natS, hbd, hr]; done) | (simp [upd_app, natS, hbd, hr]; done) | (simp [upd_app, natS, hbd, hr]; omega)) (by simp) (by simp)
  obtain ⟨n, hn⟩ : ∃ n, (enc B9 b).length = n + 2 := ⟨(enc B9 b).length - 2, by
    have : (enc B9 b).length ≠ 0 := fun h => hb0 ((enc_nil B9_gt).1 (List.length_eq_zero_iff.1 h))
    omega⟩
  obtain ⟨na, hna⟩ : ∃ na, (enc B9 a).length = na := ⟨_, rfl⟩
  have hla : n + 2 ≤ na := by
    rw [← hn, ← hna]
    rcases Nat.lt_or_ge (enc B9 a).length (enc B9 b).length with h | h
    · exact absurd (enc_len_lt B9_gt h) hab
    · exact h
  obtain ⟨tp, htp⟩ := get_some (xs := enc B9 b) (i := n + 1) (by omega)
  have htpB : tp < 1000000000 := enc_lt B9_gt b tp (List.mem_of_getElem? htp)
  have htp0 : tp ≠ 0 := enc_last B9_gt b tp (by rw [List.getLast?_eq_getElem?, hn]; exact htp)
  obtain ⟨m, hm⟩ : ∃ m, m = 1000000000 / (tp + 1) := ⟨_, rfl⟩
  obtain ⟨m1, m2, m3⟩ := norm_half (by decide) (by omega) htpB hm
  have hmB : m ≤ 1000000000 := by rw [hm]; exact Nat.div_le_self _ _
  have hN := nrm_of B9_gt hn htp (by rw [hB]; exact m2) (by rw [hB]; exact m1)
  obtain ⟨V, hV⟩ : ∃ V, b * m = V := ⟨_, rfl⟩
  obtain ⟨U, hU⟩ : ∃ U, a * m = U := ⟨_, rfl⟩
  obtain ⟨M, hM⟩ : ∃ M, M = na + 1 - (n + 2) := ⟨_, rfl⟩
  have hK := Kn.start (a := a) (M := M) hN hn m3 (by omega) (by omega) (by rw [hB]; exact hmB)
  rw [hV] at hN
  rw [hV, hU, hna] at hK
  have hpl : (padL B9 (na + 1) U).length = na + 1 := by rw [hK.len]; omega
  obtain ⟨f1, f2⟩ := quot_scale (a := a) (b := b) m3
  rw [hU, hV] at f1 f2
  have hVl := hN.len
  have hSMa := s_ShortMul hm' a m (by omega) m3 hmB
  have hSMb := s_ShortMul hm' b m (by omega) m3 hmB
  rw [hU] at hSMa
  rw [hV] at hSMb
  simp only [natS] at hSMa hSMb
  have hUl : (enc B9 U).length ≤ na + 1 := by
    have : (padL B9 (na + 1) U).length = (enc B9 U).length + (na + 1 - (enc B9 U).length) := by simp [padL]
    omega
  have hnc : ¬ cmpI a b < 0 := by simp only [cmpI]; rw [if_neg hab]; split <;> omega
  have e1 : ((n + 2 : Nat) : Int) - 1 = ((n + 1 : Nat) : Int) := by omega
  have w0 : (1000000000 : Int).tdiv ((tp + 1 : Nat) : Int) = (m : Int) := by rw [hm]; exact tdivN 1000000000 (tp + 1)
  have hdr0 : (List.replicate (na + 1) 0).drop (enc B9 U).length = List.replicate (na + 1 - (enc B9 U).length) (0 : Nat) := List.drop_replicate
  (refine callOk_of_wpc (W := fun g => g == 28 || g == 41 || g == 42 || g == 43) false hm' Tryd.func29 rfl (by kernel_rfl) (Nat.le_of_ble_eq_true rfl) (go_start ?_); generalize hQ : Post Tryd.prog Tryd.f29 _ _ _ _ _ = Q; simp only [stIn, matL, matA, st00, natS])
  simp (disch := omega) only [go_sem, ↓k_cond, ↓x_idx, ↓k_block, Nat.reduceEqDiff, ↓reduceIte, reduceCtorEq, if_pos, if_neg, decide_eq_true, decide_eq_false, beqT, beqF, bneT, bneF, wrapI, wrapU32, wrapU64, wrapU8, nc_add, nc_addL, nc_addR, nc_mul, nc_mulL, nc_mulR, nc_div, nc_divL, nc_mod, nc_modL, nc_1, nc_sub1, natA_at, natA_put, eatH_one, Int.toNat_natCast, Option.map_some, shr32, shl32, List.getD_cons_zero, List.getD_cons_succ, List.length_set, List.set_cons_zero, List.set_cons_succ]
  refine x_callP (hSa) c_Small (by simp [evA, upd_app, ofVal, ofCell, natS]) (by simp [AV.pure, AV.pureL, natA_pure, natI_pure, natS_pure]) (by simp [AV.pure, AV.pureL, natA_pure, natI_pure, natS_pure]) ?_
  simp (disch := omega) only [go_sem, ↓k_cond, ↓x_idx, ↓k_block, Nat.reduceEqDiff, ↓reduceIte, reduceCtorEq, if_pos, if_neg, decide_eq_true, decide_eq_false, beqT, beqF, bneT, bneF, wrapI, wrapU32, wrapU64, wrapU8, nc_add, nc_addL, nc_addR, nc_mul, nc_mulL, nc_mulR, nc_div, nc_divL, nc_mod, nc_modL, nc_1, nc_sub1, natA_at, natA_put, eatH_one, Int.toNat_natCast, Option.map_some, shr32, shl32, List.getD_cons_zero, List.getD_cons_succ, List.length_set, List.set_cons_zero, List.set_cons_succ]
  refine x_callP (hSb) c_Small (by simp [evA, upd_app, ofVal, ofCell, natS]) (by simp [AV.pure, AV.pureL, natA_pure, natI_pure, natS_pure]) (by simp [AV.pure, AV.pureL, natA_pure, natI_pure, natS_pure]) ?_
  simp (disch := omega) only [go_sem, ↓k_cond, ↓x_idx, ↓k_block, Nat.reduceEqDiff, ↓reduceIte, reduceCtorEq, if_pos, if_neg, decide_eq_true, decide_eq_false, beqT, beqF, bneT, bneF, wrapI, wrapU32, wrapU64, wrapU8, nc_add, nc_addL, nc_addR, nc_mul, nc_mulL, nc_mulR, nc_div, nc_divL, nc_mod, nc_modL, nc_1, nc_sub1, natA_at, natA_put, eatH_one, Int.toNat_natCast, Option.map_some, shr32, shl32, List.getD_cons_zero, List.getD_cons_succ, List.length_set, List.set_cons_zero, List.set_cons_succ]
  refine x_callP (s_Cmp hm' a b (by omega) (by omega)) cs_Cmp (by simp [evA, upd_app, ofVal, ofCell, natS]) (by simp [AV.pure, AV.pureL, natA_pure, natI_pure, natS_pure]) (by simp [AV.pure, AV.pureL, natA_pure, natI_pure, natS_pure]) ?_
  simp (disch := omega) only [go_sem, ↓k_cond, ↓x_idx, ↓k_block, Nat.reduceEqDiff, ↓reduceIte, reduceCtorEq, if_pos, if_neg, decide_eq_true, decide_eq_false, beqT, beqF, bneT, bneF, wrapI, wrapU32, wrapU64, wrapU8, nc_add, nc_addL, nc_addR, nc_mul, nc_mulL, nc_mulR, nc_div, nc_divL, nc_mod, nc_modL, nc_1, nc_sub1, natA_at, natA_put, eatH_one, Int.toNat_natCast, Option.map_some, shr32, shl32, List.getD_cons_zero, List.getD_cons_succ, List.length_set, List.set_cons_zero, List.set_cons_succ, hb1, hn, hna, e1, htp, w0, reach]
  refine x_callP (hSMa) c_ShortMul (by simp [evA, upd_app, ofVal, ofCell, natS]) (by simp [AV.pure, AV.pureL, natA_pure, natI_pure, natS_pure]) (by simp [AV.pure, AV.pureL, natA_pure, natI_pure, natS_pure]) ?_
  have hpd : enc B9 U ++ List.replicate (na + 1 - (enc B9 U).length) 0 = padL B9 (na + 1) U := rfl
  simp (disch := omega) only [go_sem, ↓k_cond, ↓x_idx, ↓k_block, Nat.reduceEqDiff, ↓reduceIte, reduceCtorEq, if_pos, if_neg, decide_eq_true, decide_eq_false, beqT, beqF, bneT, bneF, wrapI, wrapU32, wrapU64, wrapU8, nc_add, nc_addL, nc_addR, nc_mul, nc_mulL, nc_mulR, nc_div, nc_divL, nc_mod, nc_modL, nc_1, nc_sub1, natA_at, natA_put, eatH_one, Int.toNat_natCast, Option.map_some, shr32, shl32, List.getD_cons_zero, List.getD_cons_succ, List.length_set, List.set_cons_zero, List.set_cons_succ, copyA, natA_length, natA_drop, hdr0, List.take_zero, List.nil_append, List.length_replicate, List.length_append, natA_append, hpd, hpl]
  refine x_callP (hSMb) c_ShortMul (by simp [evA, upd_app, ofVal, ofCell, natS]) (by simp [AV.pure, AV.pureL, natA_pure, natI_pure, natS_pure]) (by simp [AV.pure, AV.pureL, natA_pure, natI_pure, natS_pure]) ?_
  have e3 : ((na + 1 : Nat) : Int) - ((n + 2 : Nat) : Int) = (M : Int) := by omega
  obtain ⟨top, next, ht1, ht2⟩ : ∃ top next, (enc B9 V)[n + 1]? = some top ∧ (enc B9 V)[n]? = some next := by
    obtain ⟨x, hx⟩ := get_some (xs := enc B9 V) (i := n + 1) (by omega)
    obtain ⟨y, hy⟩ := get_some (xs := enc B9 V) (i := n) (by omega)
    exact ⟨x, y, hx, hy⟩
  have htB : top < B9 := enc_lt B9_gt V _ (List.mem_of_getElem? ht1)
  have hnB : next < B9 := enc_lt B9_gt V _ (List.mem_of_getElem? ht2)
  have hhalf := hN.half _ ht1
  have e2 : ((n + 2 : Nat) : Int) - 2 = (n : Int) := by omega
  rw [hB] at htB hnB hhalf
  simp (disch := omega) only [go_sem, ↓k_cond, ↓x_idx, Nat.reduceEqDiff, ↓reduceIte, reduceCtorEq, if_pos, if_neg, decide_eq_true, decide_eq_false, beqT, beqF, bneT, bneF, wrapI, wrapU32, wrapU64, wrapU8, nc_add, nc_addL, nc_addR, nc_mul, nc_mulL, nc_mulR, nc_div, nc_divL, nc_mod, nc_modL, nc_1, nc_sub1, natA_at, natA_put, eatH_one, Int.toNat_natCast, Option.map_some, shr32, shl32, List.getD_cons_zero, List.getD_cons_succ, List.length_set, List.set_cons_zero, List.set_cons_succ, hVl, hpl, e3, reach, natA_length, List.length_replicate]
  obtain ⟨R, hR⟩ : ∃ R : Nat × List Nat × List Nat → St → Prop, R = fun p st => st.fr 12 = .int .i64 m ∧ st.fr 13 = .ref 0 (na + 1) 0 (na + 1) ∧ st.fr 14 = natS V ∧ st.fr 15 = .int .i64 ((n + 2 : Nat) : Int) ∧ st.fr 16 = .ref 1 M 0 M ∧ st.fr 17 = .int .i64 ((p.1 : Int) - 1) ∧
      st.h 0 = ⟨2, natA .i64 p.2.1, true, true, true⟩ ∧ st.h 1 = ⟨2, natA .i64 (List.replicate p.1 0 ++ p.2.2), true, true, true⟩ ∧ Kn B9 V U M n p.1 p.2.1 p.2.2 := ⟨_, rfl⟩
  obtain ⟨F, hF⟩ : ∃ F : St → Prop, F = fun st => st.fr 12 = .int .i64 m ∧ st.fr 13 = .ref 0 (na + 1) 0 (na + 1) ∧ st.fr 16 = .ref 1 M 0 M ∧ ∃ us qs, st.h 0 = ⟨2, natA .i64 us, true, true, true⟩ ∧ st.h 1 = ⟨2, natA .i64 qs, true, true, true⟩ ∧ Kn B9 V U M n 0 us qs := ⟨_, rfl⟩
  have hMn : M + (n + 2) = na + 1 := by omega
  have hnab : na ≤ 1099511627775 := by omega
  refine k_join F ?_ ?_
  · simp (disch := omega) only [go_sem, ↓k_cond, ↓x_idx, ↓k_block, Nat.reduceEqDiff, ↓reduceIte, reduceCtorEq, if_pos, if_neg, decide_eq_true, decide_eq_false, beqT, beqF, bneT, bneF, wrapI, wrapU32, wrapU64, wrapU8, nc_add, nc_addL, nc_addR, nc_mul, nc_mulL, nc_mulR, nc_div, nc_divL, nc_mod, nc_modL, nc_1, nc_sub1, natA_at, natA_put, eatH_one, Int.toNat_natCast, Option.map_some, shr32, shl32, List.getD_cons_zero, List.getD_cons_succ, List.length_set, List.set_cons_zero, List.set_cons_succ]
    clear hb0 hab hb1 hb ha e1 e3 m1 m2 f1 f2 htp0 htpB htp hQ hSa hSb hSMa hSMb hsa hbi hsm w0 hnc hmB
    refine k_loop R (fun p => p.1) (M, padL B9 (na + 1) U, []) (by rw [hR]; exact ⟨(by first | (simp only [upd_app, ↓reduceIte, Nat.reduceEqDiff]; done) | (simp [upd_app]; done) | (simp [upd_app]; omega)), (by first | (simp only [upd_app, ↓reduceIte, Nat.reduceEqDiff]; done) | (simp [upd_app]; done) | (simp [upd_app]; omega)), (by first | (simp only [upd_app, ↓reduceIte, Nat.reduceEqDiff, natS]; done) | (simp [upd_app, natS]; done) | (simp [upd_app, natS]; omega)), (by first | (simp only [upd_app, ↓reduceIte, Nat.reduceEqDiff]; done) | (simp [upd_app]; done) | (simp [upd_app]; omega)), (by first | (simp only [upd_app, ↓reduceIte, Nat.reduceEqDiff]; done) | (simp [upd_app]; done) | (simp [upd_app]; omega)), (by first | (simp only [upd_app, ↓reduceIte, Nat.reduceEqDiff]; done) | (simp [upd_app]; done) | (simp [upd_app]; omega)), by simp [upd_app], by simp [upd_app], hK⟩) ?_
    clear hK hn hna hla hM hpl hV hU hUl hdr0 hpd hm m3
    rintro ⟨i, us, qs⟩ ⟨fr, h, nx⟩ hst J hJ
    rw [hR] at hst
    obtain ⟨h12, h13, h14, h15, h16, h17, hm0, hm2, hK⟩ := hst
    simp only [natS] at h12 h13 h14 h15 h16 h17 hm0 hm2 hK
    have hul : us.length = na + 1 := by rw [hK.len]; omega
    rcases Nat.eq_zero_or_pos i with rfl | hp
    · simp (disch := omega) only [go_sem, ↓k_cond, ↓x_idx, ↓k_block, Nat.reduceEqDiff, ↓reduceIte, reduceCtorEq, if_pos, if_neg, decide_eq_true, decide_eq_false, beqT, beqF, bneT, bneF, wrapI, wrapU32, wrapU64, wrapU8, nc_add, nc_addL, nc_addR, nc_mul, nc_mulL, nc_mulR, nc_div, nc_divL, nc_mod, nc_modL, nc_1, nc_sub1, natA_at, natA_put, eatH_one, Int.toNat_natCast, Option.map_some, shr32, shl32, List.getD_cons_zero, List.getD_cons_succ, List.length_set, List.set_cons_zero, List.set_cons_succ, h12, h13, h14, h15, h16, h17]
      rw [hF]
      exact ⟨(by first | (simp only [upd_app, ↓reduceIte, Nat.reduceEqDiff, h12]; done) | (simp [upd_app, h12]; done) | (simp [upd_app, h12]; omega)), (by first | (simp only [upd_app, ↓reduceIte, Nat.reduceEqDiff, h13]; done) | (simp [upd_app, h13]; done) | (simp [upd_app, h13]; omega)), (by first | (simp only [upd_app, ↓reduceIte, Nat.reduceEqDiff, h16]; done) | (simp [upd_app, h16]; done) | (simp [upd_app, h16]; omega)), us, qs, hm0, by simpa using hm2, hK⟩
    · obtain ⟨j, rfl⟩ : ∃ j, i = j + 1 := ⟨i - 1, by omega⟩
      have hjM := hK.iM
      obtain ⟨top', next', u1, u2, u3, g1, g2, g3, g4, g5, c1, c2, c3, c4, c5, hD⟩ := hK.digs hN
      obtain rfl : top' = top := by rw [ht1] at g1; exact (Option.some.inj g1).symm
      obtain rfl : next' = next := by rw [ht2] at g2; exact (Option.some.inj g2).symm
      obtain ⟨W, hW⟩ : ∃ W, val B9 ((us.drop j).take (n + 3)) = W := ⟨_, rfl⟩
      rw [hW] at hD
      obtain ⟨x, hx⟩ : ∃ x, u1 * 1000000000 + u2 = x := ⟨_, rfl⟩
      have hx' : u1 * B9 + u2 = x := by rw [hB]; exact hx
      rw [hx'] at hD
      rw [hB] at c3 c4 c5
      have htop0 : ¬ (top' : Int) = 0 := by omega
      have e4 : ((j + (n + 2) : Nat) : Int) - 1 = ((j + (n + 1) : Nat) : Int) := by omega
      have e5 : ((j + (n + 2) : Nat) : Int) - 2 = ((j + n : Nat) : Int) := by omega
      have e6 : ((j + 1 : Nat) : Int) - 1 = (j : Int) := by omega
      have e1 : ((n + 2 : Nat) : Int) - 1 = ((n + 1 : Nat) : Int) := by omega
      rw [e6] at h17
      have hul2 : (natA .i64 us).length = na + 1 := by rw [natA_length, hul]
      obtain ⟨d0, hd0⟩ : ∃ d0, x / top' = d0 := ⟨_, rfl⟩
      obtain ⟨r0, hr0⟩ : ∃ r0, x % top' = r0 := ⟨_, rfl⟩
      have hst0 := hD.start
      have hst1 := hD.first
      have hst2 : d0 * top' + r0 = x := by rw [← hd0, ← hr0, Nat.mul_comm]; exact Nat.div_add_mod x top'
      have hst3 : r0 < top' := hr0 ▸ Nat.mod_lt _ (by omega)
      rw [hd0] at hst0 hst1
      simp (disch := omega) only [go_sem, ↓k_cond, ↓x_idx, Nat.reduceEqDiff, ↓reduceIte, reduceCtorEq, if_pos, if_neg, decide_eq_true, decide_eq_false, beqT, beqF, bneT, bneF, wrapI, wrapU32, wrapU64, wrapU8, nc_add, nc_addL, nc_addR, nc_mul, nc_mulL, nc_mulR, nc_div, nc_divL, nc_mod, nc_modL, nc_1, nc_sub1, natA_at, natA_put, eatH_one, Int.toNat_natCast, Option.map_some, shr32, shl32, List.getD_cons_zero, List.getD_cons_succ, List.length_set, List.set_cons_zero, List.set_cons_succ, h12, h13, h14, h15, h16, h17]
      rw [k_block]
      have hx2 : x < 1000000000000000000 := by omega
      have hd0b : d0 ≤ 1000000001 := by rw [hB] at hst1; exact hst1
      simp (disch := omega) only [go_sem, ↓k_cond, ↓x_idx, Nat.reduceEqDiff, ↓reduceIte, reduceCtorEq, if_pos, if_neg, decide_eq_true, decide_eq_false, beqT, beqF, bneT, bneF, wrapI, wrapU32, wrapU64, wrapU8, nc_add, nc_addL, nc_addR, nc_mul, nc_mulL, nc_mulR, nc_div, nc_divL, nc_mod, nc_modL, nc_1, nc_sub1, natA_at, natA_put, eatH_one, Int.toNat_natCast, Option.map_some, shr32, shl32, List.getD_cons_zero, List.getD_cons_succ, List.length_set, List.set_cons_zero, List.set_cons_succ, h12, h13, h14, h15, h16, h17, hVl, natA_length, e1, e4, e5, hm0, hul, g3, g4, ht1, ht2, hx, htop0, hd0, hr0]
      obtain ⟨G, hG⟩ : ∃ G : St → Prop, G = fun st => st.fr 12 = .int .i64 m ∧ st.fr 13 = .ref 0 (na + 1) 0 (na + 1) ∧ st.fr 14 = natS V ∧ st.fr 15 = .int .i64 ((n + 2 : Nat) : Int) ∧ st.fr 16 = .ref 1 M 0 M ∧ st.fr 17 = .int .i64 j ∧
          st.h 0 = ⟨2, natA .i64 us, true, true, true⟩ ∧ st.h 1 = ⟨2, natA .i64 (List.replicate (j + 1) 0 ++ qs), true, true, true⟩ ∧ ∃ d, st.fr 19 = .int .i64 d ∧ Est B9 V W d := ⟨_, rfl⟩
      refine k_join G ?_ ?_
      · simp (disch := omega) only [go_sem, ↓k_cond, ↓x_idx, ↓k_block, Nat.reduceEqDiff, ↓reduceIte, reduceCtorEq, if_pos, if_neg, decide_eq_true, decide_eq_false, beqT, beqF, bneT, bneF, wrapI, wrapU32, wrapU64, wrapU8, nc_add, nc_addL, nc_addR, nc_mul, nc_mulL, nc_mulR, nc_div, nc_divL, nc_mod, nc_modL, nc_1, nc_sub1, natA_at, natA_put, eatH_one, Int.toNat_natCast, Option.map_some, shr32, shl32, List.getD_cons_zero, List.getD_cons_succ, List.length_set, List.set_cons_zero, List.set_cons_succ]
        clear hJ hR hF
        obtain ⟨R2, hR2⟩ : ∃ R2 : Nat × Nat → St → Prop, R2 = fun p st => st.fr 12 = .int .i64 m ∧ st.fr 13 = .ref 0 (na + 1) 0 (na + 1) ∧ st.fr 14 = natS V ∧ st.fr 15 = .int .i64 ((n + 2 : Nat) : Int) ∧ st.fr 16 = .ref 1 M 0 M ∧ st.fr 17 = .int .i64 j ∧
          st.h 0 = ⟨2, natA .i64 us, true, true, true⟩ ∧ st.h 1 = ⟨2, natA .i64 (List.replicate (j + 1) 0 ++ qs), true, true, true⟩ ∧ st.fr 19 = .int .i64 p.1 ∧ st.fr 20 = .int .i64 p.2 ∧ p.1 * top' + p.2 = x ∧ W < (p.1 + 1) * V ∧ p.1 ≤ 1000000001 ∧ p.2 < 1000000000 := ⟨_, rfl⟩
        refine k_loop R2 (fun p => p.1) (d0, r0) (by rw [hR2]; exact ⟨(by first | (simp only [upd_app, ↓reduceIte, Nat.reduceEqDiff, h12]; done) | (simp [upd_app, h12]; done) | (simp [upd_app, h12]; omega)), (by first | (simp only [upd_app, ↓reduceIte, Nat.reduceEqDiff, h13]; done) | (simp [upd_app, h13]; done) | (simp [upd_app, h13]; omega)), (by first | (simp only [upd_app, ↓reduceIte, Nat.reduceEqDiff, h14, natS]; done) | (simp [upd_app, h14, natS]; done) | (simp [upd_app, h14, natS]; omega)), (by first | (simp only [upd_app, ↓reduceIte, Nat.reduceEqDiff, h15]; done) | (simp [upd_app, h15]; done) | (simp [upd_app, h15]; omega)), (by first | (simp only [upd_app, ↓reduceIte, Nat.reduceEqDiff, h16]; done) | (simp [upd_app, h16]; done) | (simp [upd_app, h16]; omega)), (by first | (simp only [upd_app, ↓reduceIte, Nat.reduceEqDiff, h17]; done) | (simp [upd_app, h17]; done) | (simp [upd_app, h17]; omega)), hm0, hm2, (by first | (simp only [upd_app, ↓reduceIte, Nat.reduceEqDiff]; done) | (simp [upd_app]; done) | (simp [upd_app]; omega)), (by first | (simp only [upd_app, ↓reduceIte, Nat.reduceEqDiff]; done) | (simp [upd_app]; done) | (simp [upd_app]; omega)), hst2, hst0, hd0b, by simp only; omega⟩) ?_
        clear h12 h13 h14 h15 h16 h17 hm0 hm2 hst0 hst1 hst2 hst3 hd0 hr0 hd0b
        rintro ⟨d, r⟩ ⟨fr, h, nx⟩ hst J2 hJ2
        rw [hR2] at hst
        obtain ⟨h12, h13, h14, h15, h16, h17, hm0, hm2, h19, h20, q1, q2, q3, q4⟩ := hst
        simp only [natS] at h12 h13 h14 h15 h16 h17 hm0 hm2 h19 h20 q1 q2 q3 q4
        have key : 1000000000 ≤ d ∨ r * 1000000000 + u3 < d * next' → 0 < d ∧ ((d : Int) - 1 = ((d - 1 : Nat) : Int)) ∧ (∀ st : St, st.fr 12 = .int .i64 m → st.fr 13 = .ref 0 (na + 1) 0 (na + 1) → st.fr 14 = natS V → st.fr 15 = .int .i64 ((n + 2 : Nat) : Int) → st.fr 16 = .ref 1 M 0 M → st.fr 17 = .int .i64 j →
            st.h = h → st.fr 19 = .int .i64 ((d - 1 : Nat) : Int) → st.fr 20 = .int .i64 ((r + top' : Nat) : Int) → r + top' < 1000000000 → J2 st) ∧ (1000000000 ≤ r + top' → Est B9 V W (d - 1)) := by
          intro hc
          rw [← hB] at hc
          obtain ⟨p1, p2, p3⟩ := hD.less q1 hc
          refine ⟨p1, by omega, fun st r12 r13 r14 r15 r16 r17 rh r19 r20 hr => hJ2 (d - 1, r + top') st ?_ (by simp only; omega), fun hr => ?_⟩
          · rw [hR2]; exact ⟨r12, r13, r14, r15, r16, r17, by rw [rh]; exact hm0, by rw [rh]; exact hm2, r19, r20, p3, p2, by simp only; omega, hr⟩
          · refine hD.early p3 p2 ?_ (by rw [hB]; exact hr)
            rcases Nat.lt_or_ge B9 d with h' | h'
            · have := hD.small q1 h'; rw [hB] at this; omega
            · omega
        have fin : d < 1000000000 → d * next' ≤ r * 1000000000 + u3 → Est B9 V W d := fun a b => hD.done q1 q2 (by rw [hB]; exact a) (by rw [hB]; exact b)
        clear hJ2 hR2 q1 q2 hD hN hK
        obtain ⟨z, hz⟩ : ∃ z, d * next' = z := ⟨_, rfl⟩
        rw [hz] at key fin
        by_cases hdB : 1000000000 ≤ d
        · obtain ⟨p1, p2, p3, p4⟩ := key (.inl hdB)
          by_cases hr : 1000000000 ≤ r + top'
          · simp (disch := omega) only [go_sem, ↓k_cond, ↓x_idx, ↓k_block, Nat.reduceEqDiff, ↓reduceIte, reduceCtorEq, if_pos, if_neg, decide_eq_true, decide_eq_false, beqT, beqF, bneT, bneF, wrapI, wrapU32, wrapU64, wrapU8, nc_add, nc_addL, nc_addR, nc_mul, nc_mulL, nc_mulR, nc_div, nc_divL, nc_mod, nc_modL, nc_1, nc_sub1, natA_at, natA_put, eatH_one, Int.toNat_natCast, Option.map_some, shr32, shl32, List.getD_cons_zero, List.getD_cons_succ, List.length_set, List.set_cons_zero, List.set_cons_succ, h12, h13, h14, h15, h16, h17, h19, h20, p2, e1, hVl, natA_length, ht1]
            rw [hG]; exact ⟨(by first | (simp only [upd_app, ↓reduceIte, Nat.reduceEqDiff, h12]; done) | (simp [upd_app, h12]; done) | (simp [upd_app, h12]; omega)), (by first | (simp only [upd_app, ↓reduceIte, Nat.reduceEqDiff, h13]; done) | (simp [upd_app, h13]; done) | (simp [upd_app, h13]; omega)), (by first | (simp only [upd_app, ↓reduceIte, Nat.reduceEqDiff, h14, natS]; done) | (simp [upd_app, h14, natS]; done) | (simp [upd_app, h14, natS]; omega)), (by first | (simp only [upd_app, ↓reduceIte, Nat.reduceEqDiff, h15]; done) | (simp [upd_app, h15]; done) | (simp [upd_app, h15]; omega)), (by first | (simp only [upd_app, ↓reduceIte, Nat.reduceEqDiff, h16]; done) | (simp [upd_app, h16]; done) | (simp [upd_app, h16]; omega)), (by first | (simp only [upd_app, ↓reduceIte, Nat.reduceEqDiff, h17]; done) | (simp [upd_app, h17]; done) | (simp [upd_app, h17]; omega)), hm0, hm2, d - 1, (by first | (simp only [upd_app, ↓reduceIte, Nat.reduceEqDiff]; done) | (simp [upd_app]; done) | (simp [upd_app]; omega)), p4 hr⟩
          · simp (disch := omega) only [go_sem, ↓k_cond, ↓x_idx, ↓k_block, Nat.reduceEqDiff, ↓reduceIte, reduceCtorEq, if_pos, if_neg, decide_eq_true, decide_eq_false, beqT, beqF, bneT, bneF, wrapI, wrapU32, wrapU64, wrapU8, nc_add, nc_addL, nc_addR, nc_mul, nc_mulL, nc_mulR, nc_div, nc_divL, nc_mod, nc_modL, nc_1, nc_sub1, natA_at, natA_put, eatH_one, Int.toNat_natCast, Option.map_some, shr32, shl32, List.getD_cons_zero, List.getD_cons_succ, List.length_set, List.set_cons_zero, List.set_cons_succ, h12, h13, h14, h15, h16, h17, h19, h20, p2, e1, hVl, natA_length, ht1]
            exact p3 _ (by first | (simp only [upd_app, ↓reduceIte, Nat.reduceEqDiff, h12]; done) | (simp [upd_app, h12]; done) | (simp [upd_app, h12]; omega)) (by first | (simp only [upd_app, ↓reduceIte, Nat.reduceEqDiff, h13]; done) | (simp [upd_app, h13]; done) | (simp [upd_app, h13]; omega)) (by first | (simp only [upd_app, ↓reduceIte, Nat.reduceEqDiff, h14, natS]; done) | (simp [upd_app, h14, natS]; done) | (simp [upd_app, h14, natS]; omega)) (by first | (simp only [upd_app, ↓reduceIte, Nat.reduceEqDiff, h15]; done) | (simp [upd_app, h15]; done) | (simp [upd_app, h15]; omega)) (by first | (simp only [upd_app, ↓reduceIte, Nat.reduceEqDiff, h16]; done) | (simp [upd_app, h16]; done) | (simp [upd_app, h16]; omega)) (by first | (simp only [upd_app, ↓reduceIte, Nat.reduceEqDiff, h17]; done) | (simp [upd_app, h17]; done) | (simp [upd_app, h17]; omega)) rfl (by first | (simp only [upd_app, ↓reduceIte, Nat.reduceEqDiff]; done) | (simp [upd_app]; done) | (simp [upd_app]; omega)) (by first | (simp only [upd_app, ↓reduceIte, Nat.reduceEqDiff]; done) | (simp [upd_app]; done) | (simp [upd_app]; omega)) (by omega)
        · have hzb : z ≤ 999999999 * 999999999 := by rw [← hz]; exact Nat.mul_le_mul (by omega) (by omega)
          by_cases hcc : r * 1000000000 + u3 < z
          · obtain ⟨p1, p2, p3, p4⟩ := key (.inr hcc)
            by_cases hr : 1000000000 ≤ r + top'
            · simp (disch := omega) only [go_sem, ↓k_cond, ↓x_idx, ↓k_block, Nat.reduceEqDiff, ↓reduceIte, reduceCtorEq, if_pos, if_neg, decide_eq_true, decide_eq_false, beqT, beqF, bneT, bneF, wrapI, wrapU32, wrapU64, wrapU8, nc_add, nc_addL, nc_addR, nc_mul, nc_mulL, nc_mulR, nc_div, nc_divL, nc_mod, nc_modL, nc_1, nc_sub1, natA_at, natA_put, eatH_one, Int.toNat_natCast, Option.map_some, shr32, shl32, List.getD_cons_zero, List.getD_cons_succ, List.length_set, List.set_cons_zero, List.set_cons_succ, h12, h13, h14, h15, h16, h17, h19, h20, p2, e1, e2, e5, hVl, natA_length, ht1, ht2, hm0, hul, g5, hz]
              rw [hG]; exact ⟨(by first | (simp only [upd_app, ↓reduceIte, Nat.reduceEqDiff, h12]; done) | (simp [upd_app, h12]; done) | (simp [upd_app, h12]; omega)), (by first | (simp only [upd_app, ↓reduceIte, Nat.reduceEqDiff, h13]; done) | (simp [upd_app, h13]; done) | (simp [upd_app, h13]; omega)), (by first | (simp only [upd_app, ↓reduceIte, Nat.reduceEqDiff, h14, natS]; done) | (simp [upd_app, h14, natS]; done) | (simp [upd_app, h14, natS]; omega)), (by first | (simp only [upd_app, ↓reduceIte, Nat.reduceEqDiff, h15]; done) | (simp [upd_app, h15]; done) | (simp [upd_app, h15]; omega)), (by first | (simp only [upd_app, ↓reduceIte, Nat.reduceEqDiff, h16]; done) | (simp [upd_app, h16]; done) | (simp [upd_app, h16]; omega)), (by first | (simp only [upd_app, ↓reduceIte, Nat.reduceEqDiff, h17]; done) | (simp [upd_app, h17]; done) | (simp [upd_app, h17]; omega)), hm0, hm2, d - 1, (by first | (simp only [upd_app, ↓reduceIte, Nat.reduceEqDiff]; done) | (simp [upd_app]; done) | (simp [upd_app]; omega)), p4 hr⟩
            · simp (disch := omega) only [go_sem, ↓k_cond, ↓x_idx, ↓k_block, Nat.reduceEqDiff, ↓reduceIte, reduceCtorEq, if_pos, if_neg, decide_eq_true, decide_eq_false, beqT, beqF, bneT, bneF, wrapI, wrapU32, wrapU64, wrapU8, nc_add, nc_addL, nc_addR, nc_mul, nc_mulL, nc_mulR, nc_div, nc_divL, nc_mod, nc_modL, nc_1, nc_sub1, natA_at, natA_put, eatH_one, Int.toNat_natCast, Option.map_some, shr32, shl32, List.getD_cons_zero, List.getD_cons_succ, List.length_set, List.set_cons_zero, List.set_cons_succ, h12, h13, h14, h15, h16, h17, h19, h20, p2, e1, e2, e5, hVl, natA_length, ht1, ht2, hm0, hul, g5, hz]
              exact p3 _ (by first | (simp only [upd_app, ↓reduceIte, Nat.reduceEqDiff, h12]; done) | (simp [upd_app, h12]; done) | (simp [upd_app, h12]; omega)) (by first | (simp only [upd_app, ↓reduceIte, Nat.reduceEqDiff, h13]; done) | (simp [upd_app, h13]; done) | (simp [upd_app, h13]; omega)) (by first | (simp only [upd_app, ↓reduceIte, Nat.reduceEqDiff, h14, natS]; done) | (simp [upd_app, h14, natS]; done) | (simp [upd_app, h14, natS]; omega)) (by first | (simp only [upd_app, ↓reduceIte, Nat.reduceEqDiff, h15]; done) | (simp [upd_app, h15]; done) | (simp [upd_app, h15]; omega)) (by first | (simp only [upd_app, ↓reduceIte, Nat.reduceEqDiff, h16]; done) | (simp [upd_app, h16]; done) | (simp [upd_app, h16]; omega)) (by first | (simp only [upd_app, ↓reduceIte, Nat.reduceEqDiff, h17]; done) | (simp [upd_app, h17]; done) | (simp [upd_app, h17]; omega)) rfl (by first | (simp only [upd_app, ↓reduceIte, Nat.reduceEqDiff]; done) | (simp [upd_app]; done) | (simp [upd_app]; omega)) (by first | (simp only [upd_app, ↓reduceIte, Nat.reduceEqDiff]; done) | (simp [upd_app]; done) | (simp [upd_app]; omega)) (by omega)
          · simp (disch := omega) only [go_sem, ↓k_cond, ↓x_idx, ↓k_block, Nat.reduceEqDiff, ↓reduceIte, reduceCtorEq, if_pos, if_neg, decide_eq_true, decide_eq_false, beqT, beqF, bneT, bneF, wrapI, wrapU32, wrapU64, wrapU8, nc_add, nc_addL, nc_addR, nc_mul, nc_mulL, nc_mulR, nc_div, nc_divL, nc_mod, nc_modL, nc_1, nc_sub1, natA_at, natA_put, eatH_one, Int.toNat_natCast, Option.map_some, shr32, shl32, List.getD_cons_zero, List.getD_cons_succ, List.length_set, List.set_cons_zero, List.set_cons_succ, h12, h13, h14, h15, h16, h17, h19, h20, e1, e2, e5, hVl, natA_length, ht1, ht2, hm0, hul, g5, hz]
            rw [hG]; exact ⟨(by first | (simp only [upd_app, ↓reduceIte, Nat.reduceEqDiff, h12]; done) | (simp [upd_app, h12]; done) | (simp [upd_app, h12]; omega)), (by first | (simp only [upd_app, ↓reduceIte, Nat.reduceEqDiff, h13]; done) | (simp [upd_app, h13]; done) | (simp [upd_app, h13]; omega)), (by first | (simp only [upd_app, ↓reduceIte, Nat.reduceEqDiff, h14, natS]; done) | (simp [upd_app, h14, natS]; done) | (simp [upd_app, h14, natS]; omega)), (by first | (simp only [upd_app, ↓reduceIte, Nat.reduceEqDiff, h15]; done) | (simp [upd_app, h15]; done) | (simp [upd_app, h15]; omega)), (by first | (simp only [upd_app, ↓reduceIte, Nat.reduceEqDiff, h16]; done) | (simp [upd_app, h16]; done) | (simp [upd_app, h16]; omega)), (by first | (simp only [upd_app, ↓reduceIte, Nat.reduceEqDiff, h17]; done) | (simp [upd_app, h17]; done) | (simp [upd_app, h17]; omega)), hm0, hm2, d, (by first | (simp only [upd_app, ↓reduceIte, Nat.reduceEqDiff, h19]; done) | (simp [upd_app, h19]; done) | (simp [upd_app, h19]; omega)), fin (by omega) (by omega)⟩
      clear h12 h13 h14 h15 h16 h17 hm0 hm2 hst0 hst1 hst2 hst3 hd0 hr0 hd0b
      rintro ⟨fr, h, nx⟩ hst
      rw [hG] at hst
      obtain ⟨h12, h13, h14, h15, h16, h17, hm0, hm2, d, h19, hE⟩ := hst
      simp only [natS] at h12 h13 h14 h15 h16 h17 hm0 hm2 h19
      obtain ⟨w1, w2, w3, w4, w5⟩ := hK.win hN
      have hlj : (us.take j).length = j := by simp; omega
      have hdlt := hE.lt
      have hdlow := hE.low
      have hV0 := hN.pos
      have hdB2 : d < 1000000000 := by rw [← hB]; exact hdlt
      have hdm := Nat.div_add_mod' W V
      have e7 : (List.replicate (j + 1) 0 ++ qs).length = M := by have := hK.qlen; simp; omega
      have e8 : (List.replicate (j + 1) 0 ++ qs)[j]? = some 0 := by rw [List.getElem?_append_left (by simp), List.getElem?_replicate, if_pos (by omega)]
      have hTO := s_TakeOff (fr := fr) (h := h) (nx := nx) (id := 0) (n := n) (m := na + 1) (pre := us.take j) (ws := (us.drop j).take (n + 3)) (post := us.drop (j + (n + 3))) V d (by rw [← split3]; exact hm0) (by rw [← split3]; exact hul) w2 hVl w1 (by omega) hdlt (by rw [hW]; exact hdlow)
      rw [hW, hlj] at hTO
      by_cases hover : W < d * V
      · obtain ⟨p1, p2, p3, p4⟩ := hE.over hV0 hover
        have hr : W + V - d * V = W % V := by rw [p3, p2]; omega
        have hK' := hK.step hN (q := d - 1) (r := W % V) (by rw [hW]; exact p2) (by rw [hW])
        have hd1 : (d : Int) - 1 = ((d - 1 : Nat) : Int) := by omega
        have hdec : decide (W < d * V) = true := by simpa using hover
        rw [hdec, offA, if_pos hover] at hTO
        obtain ⟨Y, hY⟩ : ∃ Y, W + B9 ^ (n + 2) - d * V = Y := ⟨_, rfl⟩
        rw [hY] at hTO
        have hYlt : Y < B9 ^ (n + 2) := off_lt hover hY
        have hYge : B9 ^ (n + 2) ≤ Y + V ∧ Y + V - B9 ^ (n + 2) = W % V := off_ge hdlow hr hover hN.lt hY
        have hPB := s_PutBack (ex := true) (gr := true) (fr := fun _ => .undef) (h := upd h 0 ⟨2, natA .i64 (us.take j) ++ (natA .i64 (padL B9 (n + 2) Y) ++ [.int .i64 (-1)]) ++ natA .i64 (us.drop (j + (n + 3))), true, true, true⟩) (nx := nx) (id := 0) (n := n) (m := na + 1) (pre := us.take j) (ws := padL B9 (n + 2) Y) (post := us.drop (j + (n + 3))) V
          (by simp [upd_app]) (by simp; omega) (pad_lt B9_gt) hVl (pad_len B9_gt hYlt) (by omega) (by rw [pad_val B9_gt]; exact hYge.1)
        rw [pad_val B9_gt, hYge.2, hlj] at hPB
        have hupd : ∀ z w : Blk, upd (upd h 0 z) 0 w = upd h 0 w := by intro z w; funext j; simp only [upd_app]; split <;> rfl
        rw [hupd] at hPB
        have key : ∀ st : St, st.fr 12 = .int .i64 m → st.fr 13 = .ref 0 (na + 1) 0 (na + 1) → st.fr 14 = natS V → st.fr 15 = .int .i64 ((n + 2 : Nat) : Int) → st.fr 16 = .ref 1 M 0 M → st.fr 17 = .int .i64 ((j : Int) - 1) →
            st.h 0 = ⟨2, natA .i64 (us.take j ++ padL B9 (n + 3) (W % V) ++ us.drop (j + (n + 3))), true, true, true⟩ → st.h 1 = ⟨2, natA .i64 (List.replicate j 0 ++ (d - 1) :: qs), true, true, true⟩ → J st :=
            fun st r12 r13 r14 r15 r16 r17 rh0 rh2 => hJ (j, us.take j ++ padL B9 (n + 3) (W % V) ++ us.drop (j + (n + 3)), (d - 1) :: qs) st (by rw [hR]; exact ⟨r12, r13, r14, r15, r16, r17, rh0, rh2, hK'⟩) (by simp only; omega)
        clear hJ hover hdm p2 p3 p4 hE hdlow hdlt hR hF hD hK hK' w1 w2 w3 w4 w5 hYlt hYge hr hY
        simp (disch := omega) only [go_sem, ↓k_cond, ↓x_idx, ↓k_block, Nat.reduceEqDiff, ↓reduceIte, reduceCtorEq, if_pos, if_neg, decide_eq_true, decide_eq_false, beqT, beqF, bneT, bneF, wrapI, wrapU32, wrapU64, wrapU8, nc_add, nc_addL, nc_addR, nc_mul, nc_mulL, nc_mulR, nc_div, nc_divL, nc_mod, nc_modL, nc_1, nc_sub1, natA_at, natA_put, eatH_one, Int.toNat_natCast, Option.map_some, shr32, shl32, List.getD_cons_zero, List.getD_cons_succ, List.length_set, List.set_cons_zero, List.set_cons_succ, h12, h13, h14, h15, h16, h17, h19]
        refine x_callI (hTO.re _) c_TakeOff (by simp [evA, upd_app, natS]) (.inl rfl) ?_
        simp (disch := omega) only [go_sem, ↓k_cond, ↓x_idx, ↓k_block, Nat.reduceEqDiff, ↓reduceIte, reduceCtorEq, if_pos, if_neg, decide_eq_true, decide_eq_false, beqT, beqF, bneT, bneF, wrapI, wrapU32, wrapU64, wrapU8, nc_add, nc_addL, nc_addR, nc_mul, nc_mulL, nc_mulR, nc_div, nc_divL, nc_mod, nc_modL, nc_1, nc_sub1, natA_at, natA_put, eatH_one, Int.toNat_natCast, Option.map_some, shr32, shl32, List.getD_cons_zero, List.getD_cons_succ, List.length_set, List.set_cons_zero, List.set_cons_succ, h12, h13, h14, h15, h16, h17, h19, hd1]
        refine x_callI (hPB.re _) c_PutBack (by simp [evA, upd_app, natS, h13, h14, h17]) (.inl rfl) ?_
        simp (disch := omega) only [go_sem, ↓k_cond, ↓x_idx, ↓k_block, Nat.reduceEqDiff, ↓reduceIte, reduceCtorEq, if_pos, if_neg, decide_eq_true, decide_eq_false, beqT, beqF, bneT, bneF, wrapI, wrapU32, wrapU64, wrapU8, nc_add, nc_addL, nc_addR, nc_mul, nc_mulL, nc_mulR, nc_div, nc_divL, nc_mod, nc_modL, nc_1, nc_sub1, natA_at, natA_put, eatH_one, Int.toNat_natCast, Option.map_some, shr32, shl32, List.getD_cons_zero, List.getD_cons_succ, List.length_set, List.set_cons_zero, List.set_cons_succ, h12, h13, h14, h15, h16, h17, h19, hm2, e7, e8]
        exact key _ (by first | (simp only [upd_app, ↓reduceIte, Nat.reduceEqDiff, h12]; done) | (simp [upd_app, h12]; done) | (simp [upd_app, h12]; omega)) (by first | (simp only [upd_app, ↓reduceIte, Nat.reduceEqDiff, h13]; done) | (simp [upd_app, h13]; done) | (simp [upd_app, h13]; omega)) (by first | (simp only [upd_app, ↓reduceIte, Nat.reduceEqDiff, h14, natS]; done) | (simp [upd_app, h14, natS]; done) | (simp [upd_app, h14, natS]; omega)) (by first | (simp only [upd_app, ↓reduceIte, Nat.reduceEqDiff, h15]; done) | (simp [upd_app, h15]; done) | (simp [upd_app, h15]; omega)) (by first | (simp only [upd_app, ↓reduceIte, Nat.reduceEqDiff, h16]; done) | (simp [upd_app, h16]; done) | (simp [upd_app, h16]; omega)) (by first | (simp only [upd_app, ↓reduceIte, Nat.reduceEqDiff]; done) | (simp [upd_app]; done) | (simp [upd_app]; omega)) (by simp [upd_app]) (by simp only [upd_app, ↓reduceIte, replicate_set])
      · have hq := hE.right hV0 (by omega)
        have hr : W - d * V = W % V := by rw [hq]; omega
        have hK' := hK.step hN (q := d) (r := W % V) (by rw [hW]; exact hq) (by rw [hW])
        have hdec : decide (W < d * V) = false := by simpa using hover
        rw [hdec, offA, if_neg hover, hr, natA_append, natA_append] at hTO
        have key : ∀ st : St, st.fr 12 = .int .i64 m → st.fr 13 = .ref 0 (na + 1) 0 (na + 1) → st.fr 14 = natS V → st.fr 15 = .int .i64 ((n + 2 : Nat) : Int) → st.fr 16 = .ref 1 M 0 M → st.fr 17 = .int .i64 ((j : Int) - 1) →
            st.h 0 = ⟨2, natA .i64 (us.take j ++ padL B9 (n + 3) (W % V) ++ us.drop (j + (n + 3))), true, true, true⟩ → st.h 1 = ⟨2, natA .i64 (List.replicate j 0 ++ d :: qs), true, true, true⟩ → J st :=
            fun st r12 r13 r14 r15 r16 r17 rh0 rh2 => hJ (j, us.take j ++ padL B9 (n + 3) (W % V) ++ us.drop (j + (n + 3)), d :: qs) st (by rw [hR]; exact ⟨r12, r13, r14, r15, r16, r17, rh0, rh2, hK'⟩) (by simp only; omega)
        clear hJ hover hdm hq hE hdlow hdlt hR hF hD hK hK' w1 w2 w3 w4 w5 hr
        simp (disch := omega) only [go_sem, ↓k_cond, ↓x_idx, ↓k_block, Nat.reduceEqDiff, ↓reduceIte, reduceCtorEq, if_pos, if_neg, decide_eq_true, decide_eq_false, beqT, beqF, bneT, bneF, wrapI, wrapU32, wrapU64, wrapU8, nc_add, nc_addL, nc_addR, nc_mul, nc_mulL, nc_mulR, nc_div, nc_divL, nc_mod, nc_modL, nc_1, nc_sub1, natA_at, natA_put, eatH_one, Int.toNat_natCast, Option.map_some, shr32, shl32, List.getD_cons_zero, List.getD_cons_succ, List.length_set, List.set_cons_zero, List.set_cons_succ, h12, h13, h14, h15, h16, h17, h19]
        refine x_callI (hTO.re _) c_TakeOff (by simp [evA, upd_app, natS]) (.inl rfl) ?_
        simp (disch := omega) only [go_sem, ↓k_cond, ↓x_idx, ↓k_block, Nat.reduceEqDiff, ↓reduceIte, reduceCtorEq, if_pos, if_neg, decide_eq_true, decide_eq_false, beqT, beqF, bneT, bneF, wrapI, wrapU32, wrapU64, wrapU8, nc_add, nc_addL, nc_addR, nc_mul, nc_mulL, nc_mulR, nc_div, nc_divL, nc_mod, nc_modL, nc_1, nc_sub1, natA_at, natA_put, eatH_one, Int.toNat_natCast, Option.map_some, shr32, shl32, List.getD_cons_zero, List.getD_cons_succ, List.length_set, List.set_cons_zero, List.set_cons_succ, h12, h13, h14, h15, h16, h17, h19, hm2, e7, e8]
        exact key _ (by first | (simp only [upd_app, ↓reduceIte, Nat.reduceEqDiff, h12]; done) | (simp [upd_app, h12]; done) | (simp [upd_app, h12]; omega)) (by first | (simp only [upd_app, ↓reduceIte, Nat.reduceEqDiff, h13]; done) | (simp [upd_app, h13]; done) | (simp [upd_app, h13]; omega)) (by first | (simp only [upd_app, ↓reduceIte, Nat.reduceEqDiff, h14, natS]; done) | (simp [upd_app, h14, natS]; done) | (simp [upd_app, h14, natS]; omega)) (by first | (simp only [upd_app, ↓reduceIte, Nat.reduceEqDiff, h15]; done) | (simp [upd_app, h15]; done) | (simp [upd_app, h15]; omega)) (by first | (simp only [upd_app, ↓reduceIte, Nat.reduceEqDiff, h16]; done) | (simp [upd_app, h16]; done) | (simp [upd_app, h16]; omega)) (by first | (simp only [upd_app, ↓reduceIte, Nat.reduceEqDiff]; done) | (simp [upd_app]; done) | (simp [upd_app]; omega)) (by simp [upd_app]) (by simp only [upd_app, ↓reduceIte, replicate_set])
  rintro ⟨fr, h, nx⟩ hst
  rw [hF] at hst
  obtain ⟨h12, h13, h16, us, qs, hm0, hm2, hK⟩ := hst
  simp only at h12 h13 h16 hm0 hm2
  obtain ⟨z1, z2⟩ := hK.done hN
  have hul : us.length = na + 1 := by rw [hK.len, hMn]
  have hqlen : qs.length = M := by have := hK.qlen; omega
  have husd := hK.lt
  have hqd := hK.qlt
  rw [f1] at z1
  rw [f2] at z2
  have htz : trimZ (us.take (na + 1)) = enc B9 (a % b * m) := by rw [List.take_of_length_le (by omega), trimZ_enc B9_gt husd, z2]
  have hqt : trimZ (qs.take M) = enc B9 (a / b) := by rw [List.take_of_length_le (by omega), trimZ_enc B9_gt hqd, z1]
  have hrl : (enc B9 (a % b * m)).length ≤ na + 1 := by
    rw [← z2]
    exact enc_len_le B9_gt (by rw [← hul]; exact val_lt husd)
  have hSD := s_ShortDiv hm' (a % b * m) m (by omega) m3 hmB
  rw [Nat.mul_div_cancel _ m3] at hSD
  simp (disch := omega) only [go_sem, ↓k_cond, ↓x_idx, ↓k_block, Nat.reduceEqDiff, ↓reduceIte, reduceCtorEq, if_pos, if_neg, decide_eq_true, decide_eq_false, beqT, beqF, bneT, bneF, wrapI, wrapU32, wrapU64, wrapU8, nc_add, nc_addL, nc_addR, nc_mul, nc_mulL, nc_mulR, nc_div, nc_divL, nc_mod, nc_modL, nc_1, nc_sub1, natA_at, natA_put, eatH_one, Int.toNat_natCast, Option.map_some, shr32, shl32, List.getD_cons_zero, List.getD_cons_succ, List.length_set, List.set_cons_zero, List.set_cons_succ, h12, h13, h16]
  refine x_callF (s_Trim hm' (us.take (na + 1)) (by simp; omega)) c_Trim (by simp [evA, upd_app]) (snapL_one (id := 0) (st := ⟨_, _, _⟩) hm0 hul (Nat.le_refl _)) (by simp [hm0]) (by simp [AV.pure, AV.pureL, natA_pure, natI_pure, natS_pure]) (by simp [AV.pure, AV.pureL, natA_pure, natI_pure, natS_pure]) (by simp) ?_
  rw [htz]
  simp (disch := omega) only [go_sem, ↓k_cond, ↓x_idx, ↓k_block, Nat.reduceEqDiff, ↓reduceIte, reduceCtorEq, if_pos, if_neg, decide_eq_true, decide_eq_false, beqT, beqF, bneT, bneF, wrapI, wrapU32, wrapU64, wrapU8, nc_add, nc_addL, nc_addR, nc_mul, nc_mulL, nc_mulR, nc_div, nc_divL, nc_mod, nc_modL, nc_1, nc_sub1, natA_at, natA_put, eatH_one, Int.toNat_natCast, Option.map_some, shr32, shl32, List.getD_cons_zero, List.getD_cons_succ, List.length_set, List.set_cons_zero, List.set_cons_succ, h12, h13, h16]
  refine x_callP (hSD) c_ShortDiv (by simp [evA, upd_app, ofVal, ofCell, natS]) (by simp [AV.pure, AV.pureL, natA_pure, natI_pure, natS_pure]) (by simp [AV.pure, AV.pureL, natA_pure, natI_pure, natS_pure]) ?_
  simp (disch := omega) only [go_sem, ↓k_cond, ↓x_idx, ↓k_block, Nat.reduceEqDiff, ↓reduceIte, reduceCtorEq, if_pos, if_neg, decide_eq_true, decide_eq_false, beqT, beqF, bneT, bneF, wrapI, wrapU32, wrapU64, wrapU8, nc_add, nc_addL, nc_addR, nc_mul, nc_mulL, nc_mulR, nc_div, nc_divL, nc_mod, nc_modL, nc_1, nc_sub1, natA_at, natA_put, eatH_one, Int.toNat_natCast, Option.map_some, shr32, shl32, List.getD_cons_zero, List.getD_cons_succ, List.length_set, List.set_cons_zero, List.set_cons_succ, h16]
  refine x_callF (s_Trim hm' (qs.take M) (by simp; omega)) c_Trim (by simp [evA, upd_app]) (snapL_one (id := 1) (st := ⟨_, _, _⟩) (by simp [eatH_one]; exact hm2) hqlen (Nat.le_refl _)) (by simp [eatH_one, hm2]) (by simp [AV.pure, AV.pureL, natA_pure, natI_pure, natS_pure]) (by simp [AV.pure, AV.pureL, natA_pure, natI_pure, natS_pure]) (by simp) ?_
  rw [hqt]
  simp (disch := omega) only [go_sem, ↓k_cond, ↓x_idx, ↓k_block, Nat.reduceEqDiff, ↓reduceIte, reduceCtorEq, if_pos, if_neg, decide_eq_true, decide_eq_false, beqT, beqF, bneT, bneF, wrapI, wrapU32, wrapU64, wrapU8, nc_add, nc_addL, nc_addR, nc_mul, nc_mulL, nc_mulR, nc_div, nc_divL, nc_mod, nc_modL, nc_1, nc_sub1, natA_at, natA_put, eatH_one, Int.toNat_natCast, Option.map_some, shr32, shl32, List.getD_cons_zero, List.getD_cons_succ, List.length_set, List.set_cons_zero, List.set_cons_succ]
  rw [← hQ]
  exact post_two (.inl rfl) rfl (by first | (simp only [upd_app, ↓reduceIte, Nat.reduceEqDiff, natS]; done) | (simp [upd_app, natS]; done) | (simp [upd_app, natS]; omega)) (by first | (simp only [upd_app, ↓reduceIte, Nat.reduceEqDiff, natS]; done) | (simp [upd_app, natS]; done) | (simp [upd_app, natS]; omega)) (by simp) (by simp)
end Go.Proofs.YtogabejpbdmnnaaDoor

/- Functions of Go's library: contracts out of the kit's, texts cut. -/
set_option linter.unusedSimpArgs false
set_option linter.unusedVariables false
namespace Go.Proofs.YtogabejpbdmnnaaDoor
open Go Go.RowKit

/-- A contract of the kit's with values that need no memory. -/
theorem callOk_of_below {P : Program} {f : FuncId} {args : List AV} {vals : List Value} {r : AV} {v : Value} (ha : ∀ E vs L, ownRL P E args vs L → vs = vals ∧ L = []) (hr : ∀ E, ownR P E r v [])
    (h : ∀ w : World, Calls P f vals.toArray w fun e w' => e = .returned v ∧ Below w.heap.size w w') : CallOk P f args r [] := by
  intro w I vs L hI hown hnd
  obtain ⟨rfl, rfl⟩ := ha _ _ _ hown
  refine (h w).mono ?_
  rintro e w' ⟨rfl, hb⟩
  refine ⟨v, I, [], rfl, ⟨hb.os, hb.tape, hb.output, hb.size, fun b hb' _ => hb.block b hb', by simp⟩, fun b hb' => hb', fun b hb' => .inl hb', fun b hb' => Nat.lt_of_lt_of_le (hI b hb') hb.size, hr _, by simp, by simp, .inl rfl⟩

theorem own_str {P : Program} {E : Env} {s : List UInt8} {v : Value} {L : List OLoc} (h : ownR P E (.str s) v L) : v = .string ⟨s.toArray⟩ ∧ L = [] := by simp only [ownR, rep] at h; exact ⟨h.2, h.1⟩
theorem own_int {P : Program} {E : Env} {k : IntKind} {n : Int} {v : Value} {L : List OLoc} (h : ownR P E (.int k n) v L) : v = .int k n ∧ L = [] := by simp only [ownR, rep] at h; exact ⟨h.2, h.1⟩
theorem ownL_cons {P : Program} {E : Env} {x : AV} {xs : List AV} {v : Value} {us : List Value} (hx : ∀ u L, ownR P E x u L → u = v ∧ L = []) (hxs : ∀ vs L, ownRL P E xs vs L → vs = us ∧ L = []) : ∀ vs L, ownRL P E (x :: xs) vs L → vs = v :: us ∧ L = [] := by
  intro vs L h
  simp only [ownRL] at h
  obtain ⟨u, us', L1, L2, rfl, rfl, h1, h2⟩ := h
  obtain ⟨rfl, rfl⟩ := hx _ _ h1
  obtain ⟨rfl, rfl⟩ := hxs _ _ h2
  exact ⟨rfl, rfl⟩
theorem ownL_nil {P : Program} {E : Env} : ∀ vs L, ownRL P E [] vs L → vs = [] ∧ L = [] := by intro vs L h; simpa [ownRL] using h

/-- Where a byte is found first. -/
def findB (m : UInt8) : List UInt8 → Option Nat
  | [] => none
  | c :: cs => if c = m then some 0 else (findB m cs).map (· + 1)
def findI (m : UInt8) (s : List UInt8) : Int := match findB m s with | some i => i | none => -1
theorem findI_eq (m : UInt8) (s : List UInt8) : Lib.indexByte s m = findI m s := by
  induction s with
  | nil => rfl
  | cons c cs ih =>
    unfold Lib.indexByte
    rw [ih]
    unfold findI
    by_cases h : c = m
    · simp [h, findB]
    · rw [show (c == m) = false by simpa using h]
      simp only [findB, if_neg h, Bool.false_eq_true, if_false]
      cases findB m cs with
      | none => simp
      | some i => simp <;> omega
theorem findB_lt {m : UInt8} {s : List UInt8} {i : Nat} (h : findB m s = some i) : i < s.length ∧ s[i]? = some m ∧ m ∉ s.take i := by
  induction s generalizing i with
  | nil => simp [findB] at h
  | cons c cs ih =>
    simp only [findB] at h
    by_cases hc : c = m
    · rw [if_pos hc] at h; cases h; simp [hc]
    · rw [if_neg hc] at h
      obtain ⟨j, hj, rfl⟩ := Option.map_eq_some_iff.1 h
      obtain ⟨a, b, c'⟩ := ih hj
      exact ⟨by simp only [List.length_cons]; omega, by simpa using b, by simp only [List.take_succ_cons, List.mem_cons, not_or]; exact ⟨fun e => hc e.symm, c'⟩⟩
theorem findB_none {m : UInt8} {s : List UInt8} (h : findB m s = none) : m ∉ s := by
  induction s with
  | nil => simp
  | cons c cs ih =>
    simp only [findB] at h
    by_cases hc : c = m
    · rw [if_pos hc] at h; cases h
    · rw [if_neg hc] at h
      simp at h
      simp [ih h]; exact fun e => hc e.symm

set_option maxHeartbeats 1000000 in
set_option maxRecDepth 100000 in
theorem w_IndexByte (s : ByteArray) (c : Int) (w : World) : Calls Tryd.prog 53 #[.string s, .int .u8 c] w fun e w' => e = .returned (.int .i64 (Lib.indexByte s.data.toList c.toNat.toUInt8)) ∧ w' = w := by
  go_enter Tryd.func53, Tryd.ntmps53
  go_wp2
  rw [run_callFunc_extern Tryd.func64 (by kernel_rfl) (by kernel_rfl) (by kernel_rfl) (e := Extern.BytealgIndexByte.indexByte) (by kernel_rfl), Lib.run_indexByteString]
  simp only [Result.andThen]
  rw [Oper.upon_value]
  go_wp2
  go_ret
  exact ⟨rfl, rfl⟩
theorem c_IndexByte : callable Tryd.prog 53 = true := by kernel_rfl
theorem g_IndexByte (s : List UInt8) (m : UInt8) : CallOk Tryd.prog 53 [.str s, .int .u8 m.toNat] (.int .i64 (findI m s)) [] := by
  refine callOk_of_below (vals := [.string ⟨s.toArray⟩, .int .u8 m.toNat]) (v := .int .i64 (findI m s)) (fun E => ownL_cons (fun _ _ => own_str) (ownL_cons (fun _ _ => own_int) ownL_nil)) (fun E => by simp [ownR, rep]) fun w => ?_
  refine (w_IndexByte ⟨s.toArray⟩ m.toNat w).mono ?_
  rintro e w' ⟨rfl, rfl⟩
  refine ⟨?_, Below.refl _ _⟩
  simp [findI_eq]

theorem c_HasPrefix : callable Tryd.prog 45 = true := by kernel_rfl
theorem c_sCutPrefix : callable Tryd.prog 31 = true := by kernel_rfl
theorem c_CutPrefix : callable Tryd.prog 23 = true := by kernel_rfl
theorem c_Index : callable Tryd.prog 44 = true := by kernel_rfl
theorem c_sCut : callable Tryd.prog 30 = true := by kernel_rfl
theorem c_Cut : callable Tryd.prog 22 = true := by kernel_rfl
/-- Whether the text begins with this byte. -/
def headB (m : UInt8) (s : List UInt8) : Bool := s.head? == some m
theorem g_HasPrefix (s : List UInt8) (m : UInt8) (hs : s.length < 9223372036854775808) : CallOk Tryd.prog 45 [.str s, .str [m]] (.bool (headB m s)) [] := by
  (refine callOk_of_wpc (W := fun _ => false) false hm' Tryd.func45 rfl (by kernel_rfl) (Nat.le_of_ble_eq_true rfl) (go_start ?_); generalize hQ : Post Tryd.prog Tryd.f45 _ _ _ _ _ = Q; simp only [stIn, matL, matA, st00])
  cases s with
  | nil =>
    simp (disch := omega) only [go_sem, ↓k_cond, ↓x_idx, ↓k_block, Nat.reduceEqDiff, ↓reduceIte, reduceCtorEq, if_pos, if_neg, decide_eq_true, decide_eq_false, beqT, beqF, bneT, bneF, wrapI, wrapU32, wrapU64, wrapU8, nc_add, nc_addL, nc_addR, nc_mul, nc_mulL, nc_mulR, nc_div, nc_divL, nc_mod, nc_modL, nc_1, nc_sub1, natA_at, natA_put, eatH_one, Int.toNat_natCast, Option.map_some, shr32, shl32, List.getD_cons_zero, List.getD_cons_succ, List.length_set, List.set_cons_zero, List.set_cons_succ, List.length_cons, List.length_nil]
    rw [← hQ]
    exact post_one (.inl rfl) rfl (by first | (simp only [upd_app, ↓reduceIte, Nat.reduceEqDiff, headB]; done) | (simp [upd_app, headB]; done) | (simp [upd_app, headB]; omega)) rfl
  | cons c cs =>
    simp only [List.length_cons] at hs
    simp (disch := omega) only [go_sem, ↓k_cond, ↓x_idx, ↓k_block, Nat.reduceEqDiff, ↓reduceIte, reduceCtorEq, if_pos, if_neg, decide_eq_true, decide_eq_false, beqT, beqF, bneT, bneF, wrapI, wrapU32, wrapU64, wrapU8, nc_add, nc_addL, nc_addR, nc_mul, nc_mulL, nc_mulR, nc_div, nc_divL, nc_mod, nc_modL, nc_1, nc_sub1, natA_at, natA_put, eatH_one, Int.toNat_natCast, Option.map_some, shr32, shl32, List.getD_cons_zero, List.getD_cons_succ, List.length_set, List.set_cons_zero, List.set_cons_succ, List.length_cons, List.length_nil, List.take_succ_cons, List.take_zero]
    rw [← hQ]
    refine post_one (.inl rfl) rfl (by first | (simp only [upd_app, ↓reduceIte, Nat.reduceEqDiff, headB]; done) | (simp [upd_app, headB]; done) | (simp [upd_app, headB]; omega)) rfl
theorem g_sCutPrefix (s : List UInt8) (m : UInt8) (hs : s.length < 9223372036854775808) : CallOk Tryd.prog 31 [.str s, .str [m]] (.tup [.str (if headB m s = true then s.tail else s), .bool (headB m s)]) [] := by
  (refine callOk_of_wpc (W := fun _ => false) false hm' Tryd.func31 rfl (by kernel_rfl) (Nat.le_of_ble_eq_true rfl) (go_start ?_); generalize hQ : Post Tryd.prog Tryd.f31 _ _ _ _ _ = Q; simp only [stIn, matL, matA, st00])
  simp (disch := omega) only [go_sem, ↓k_cond, ↓x_idx, ↓k_block, Nat.reduceEqDiff, ↓reduceIte, reduceCtorEq, if_pos, if_neg, decide_eq_true, decide_eq_false, beqT, beqF, bneT, bneF, wrapI, wrapU32, wrapU64, wrapU8, nc_add, nc_addL, nc_addR, nc_mul, nc_mulL, nc_mulR, nc_div, nc_divL, nc_mod, nc_modL, nc_1, nc_sub1, natA_at, natA_put, eatH_one, Int.toNat_natCast, Option.map_some, shr32, shl32, List.getD_cons_zero, List.getD_cons_succ, List.length_set, List.set_cons_zero, List.set_cons_succ]
  refine x_callP (g_HasPrefix s m hs) c_HasPrefix (by simp [evA, upd_app, ofVal, ofCell]) (by simp [AV.pure, AV.pureL, natA_pure, natI_pure, natS_pure]) (by simp [AV.pure, AV.pureL, natA_pure, natI_pure, natS_pure]) ?_
  cases hh : headB m s with
  | false =>
    simp (disch := omega) only [go_sem, ↓k_cond, ↓x_idx, ↓k_block, Nat.reduceEqDiff, ↓reduceIte, reduceCtorEq, if_pos, if_neg, decide_eq_true, decide_eq_false, beqT, beqF, bneT, bneF, wrapI, wrapU32, wrapU64, wrapU8, nc_add, nc_addL, nc_addR, nc_mul, nc_mulL, nc_mulR, nc_div, nc_divL, nc_mod, nc_modL, nc_1, nc_sub1, natA_at, natA_put, eatH_one, Int.toNat_natCast, Option.map_some, shr32, shl32, List.getD_cons_zero, List.getD_cons_succ, List.length_set, List.set_cons_zero, List.set_cons_succ]
    rw [← hQ, hh]
    exact post_two (.inl rfl) rfl (by first | (simp only [upd_app, ↓reduceIte, Nat.reduceEqDiff]; done) | (simp [upd_app]; done) | (simp [upd_app]; omega)) (by first | (simp only [upd_app, ↓reduceIte, Nat.reduceEqDiff]; done) | (simp [upd_app]; done) | (simp [upd_app]; omega)) rfl rfl
  | true =>
    cases s with
    | nil => simp [headB] at hh
    | cons c cs =>
      simp only [List.length_cons] at hs
      simp (disch := omega) only [go_sem, ↓k_cond, ↓x_idx, ↓k_block, Nat.reduceEqDiff, ↓reduceIte, reduceCtorEq, if_pos, if_neg, decide_eq_true, decide_eq_false, beqT, beqF, bneT, bneF, wrapI, wrapU32, wrapU64, wrapU8, nc_add, nc_addL, nc_addR, nc_mul, nc_mulL, nc_mulR, nc_div, nc_divL, nc_mod, nc_modL, nc_1, nc_sub1, natA_at, natA_put, eatH_one, Int.toNat_natCast, Option.map_some, shr32, shl32, List.getD_cons_zero, List.getD_cons_succ, List.length_set, List.set_cons_zero, List.set_cons_succ, List.length_cons, List.length_nil]
      rw [← hQ, hh]
      exact post_two (.inl rfl) rfl (by first | (simp only [upd_app, ↓reduceIte, Nat.reduceEqDiff]; done) | (simp [upd_app]; done) | (simp [upd_app]; omega)) (by first | (simp only [upd_app, ↓reduceIte, Nat.reduceEqDiff]; done) | (simp [upd_app]; done) | (simp [upd_app]; omega)) rfl rfl
theorem g_CutPrefix (s : List UInt8) (m : UInt8) (hs : s.length < 9223372036854775808) : CallOk Tryd.prog 23 [.str s, .str [m]] (.tup [.str (if headB m s = true then s.tail else s), .bool (headB m s)]) [] := by
  (refine callOk_of_wpc (W := fun _ => false) false hm' Tryd.func23 rfl (by kernel_rfl) (Nat.le_of_ble_eq_true rfl) (go_start ?_); generalize hQ : Post Tryd.prog Tryd.f23 _ _ _ _ _ = Q; simp only [stIn, matL, matA, st00])
  simp (disch := omega) only [go_sem, ↓k_cond, ↓x_idx, ↓k_block, Nat.reduceEqDiff, ↓reduceIte, reduceCtorEq, if_pos, if_neg, decide_eq_true, decide_eq_false, beqT, beqF, bneT, bneF, wrapI, wrapU32, wrapU64, wrapU8, nc_add, nc_addL, nc_addR, nc_mul, nc_mulL, nc_mulR, nc_div, nc_divL, nc_mod, nc_modL, nc_1, nc_sub1, natA_at, natA_put, eatH_one, Int.toNat_natCast, Option.map_some, shr32, shl32, List.getD_cons_zero, List.getD_cons_succ, List.length_set, List.set_cons_zero, List.set_cons_succ]
  refine x_callP (g_sCutPrefix s m hs) c_sCutPrefix (by simp [evA, upd_app, ofVal, ofCell]) (by simp [AV.pure, AV.pureL, natA_pure, natI_pure, natS_pure]) (by simp [AV.pure, AV.pureL, natA_pure, natI_pure, natS_pure]) ?_
  simp (disch := omega) only [go_sem, ↓k_cond, ↓x_idx, ↓k_block, Nat.reduceEqDiff, ↓reduceIte, reduceCtorEq, if_pos, if_neg, decide_eq_true, decide_eq_false, beqT, beqF, bneT, bneF, wrapI, wrapU32, wrapU64, wrapU8, nc_add, nc_addL, nc_addR, nc_mul, nc_mulL, nc_mulR, nc_div, nc_divL, nc_mod, nc_modL, nc_1, nc_sub1, natA_at, natA_put, eatH_one, Int.toNat_natCast, Option.map_some, shr32, shl32, List.getD_cons_zero, List.getD_cons_succ, List.length_set, List.set_cons_zero, List.set_cons_succ]
  rw [← hQ]
  exact post_two (.inl rfl) rfl (by first | (simp only [upd_app, ↓reduceIte, Nat.reduceEqDiff]; done) | (simp [upd_app]; done) | (simp [upd_app]; omega)) (by first | (simp only [upd_app, ↓reduceIte, Nat.reduceEqDiff]; done) | (simp [upd_app]; done) | (simp [upd_app]; omega)) rfl rfl
theorem g_Index (s : List UInt8) (m : UInt8) (hs : s.length < 9223372036854775808) : CallOk Tryd.prog 44 [.str s, .str [m]] (.int .i64 (findI m s)) [] := by
  (refine callOk_of_wpc (W := fun _ => false) false hm' Tryd.func44 rfl (by kernel_rfl) (Nat.le_of_ble_eq_true rfl) (go_start ?_); generalize hQ : Post Tryd.prog Tryd.f44 _ _ _ _ _ = Q; simp only [stIn, matL, matA, st00])
  by_cases hms : s = [m]
  · subst hms
    have e : ([m] == [m]) = true := by simp
    simp (disch := omega) only [go_sem, ↓k_cond, ↓x_idx, ↓k_block, Nat.reduceEqDiff, ↓reduceIte, reduceCtorEq, if_pos, if_neg, decide_eq_true, decide_eq_false, beqT, beqF, bneT, bneF, wrapI, wrapU32, wrapU64, wrapU8, nc_add, nc_addL, nc_addR, nc_mul, nc_mulL, nc_mulR, nc_div, nc_divL, nc_mod, nc_modL, nc_1, nc_sub1, natA_at, natA_put, eatH_one, Int.toNat_natCast, Option.map_some, shr32, shl32, List.getD_cons_zero, List.getD_cons_succ, List.length_set, List.set_cons_zero, List.set_cons_succ, List.length_cons, List.length_nil, e]
    rw [← hQ]
    exact post_one (.inl rfl) rfl (by first | (simp only [upd_app, ↓reduceIte, Nat.reduceEqDiff, findI, findB]; done) | (simp [upd_app, findI, findB]; done) | (simp [upd_app, findI, findB]; omega)) rfl
  · have e : ([m] == s) = false := by simpa using fun h : [m] = s => hms h.symm
    simp (disch := omega) only [go_sem, ↓k_cond, ↓x_idx, ↓k_block, Nat.reduceEqDiff, ↓reduceIte, reduceCtorEq, if_pos, if_neg, decide_eq_true, decide_eq_false, beqT, beqF, bneT, bneF, wrapI, wrapU32, wrapU64, wrapU8, nc_add, nc_addL, nc_addR, nc_mul, nc_mulL, nc_mulR, nc_div, nc_divL, nc_mod, nc_modL, nc_1, nc_sub1, natA_at, natA_put, eatH_one, Int.toNat_natCast, Option.map_some, shr32, shl32, List.getD_cons_zero, List.getD_cons_succ, List.length_set, List.set_cons_zero, List.set_cons_succ, List.length_cons, List.length_nil, e]
    have hb : [m][Int.toNat 0]? = some m := rfl
    simp (disch := omega) only [go_sem, ↓k_cond, ↓x_idx, ↓k_block, Nat.reduceEqDiff, ↓reduceIte, reduceCtorEq, if_pos, if_neg, decide_eq_true, decide_eq_false, beqT, beqF, bneT, bneF, wrapI, wrapU32, wrapU64, wrapU8, nc_add, nc_addL, nc_addR, nc_mul, nc_mulL, nc_mulR, nc_div, nc_divL, nc_mod, nc_modL, nc_1, nc_sub1, natA_at, natA_put, eatH_one, Int.toNat_natCast, Option.map_some, shr32, shl32, List.getD_cons_zero, List.getD_cons_succ, List.length_set, List.set_cons_zero, List.set_cons_succ, List.length_cons, List.length_nil, hb]
    refine x_callP (g_IndexByte s m) c_IndexByte (by simp [evA, upd_app, ofVal, ofCell]) (by simp [AV.pure, AV.pureL, natA_pure, natI_pure, natS_pure]) (by simp [AV.pure, AV.pureL, natA_pure, natI_pure, natS_pure]) ?_
    simp (disch := omega) only [go_sem, ↓k_cond, ↓x_idx, ↓k_block, Nat.reduceEqDiff, ↓reduceIte, reduceCtorEq, if_pos, if_neg, decide_eq_true, decide_eq_false, beqT, beqF, bneT, bneF, wrapI, wrapU32, wrapU64, wrapU8, nc_add, nc_addL, nc_addR, nc_mul, nc_mulL, nc_mulR, nc_div, nc_divL, nc_mod, nc_modL, nc_1, nc_sub1, natA_at, natA_put, eatH_one, Int.toNat_natCast, Option.map_some, shr32, shl32, List.getD_cons_zero, List.getD_cons_succ, List.length_set, List.set_cons_zero, List.set_cons_succ]
    rw [← hQ]
    exact post_one (.inl rfl) rfl (by first | (simp only [upd_app, ↓reduceIte, Nat.reduceEqDiff]; done) | (simp [upd_app]; done) | (simp [upd_app]; omega)) rfl
/-- What stands ahead of a mark and behind it. -/
def cutV (m : UInt8) (s : List UInt8) : AV := match findB m s with | some i => .tup [.str (s.take i), .str (s.drop (i + 1)), .bool true] | none => .tup [.str s, .str [], .bool false]
theorem cutV_pure (m : UInt8) (s : List UInt8) : (cutV m s).pure = true := by unfold cutV; split <;> rfl
theorem g_sCut (s : List UInt8) (m : UInt8) (hs : s.length < 9223372036854775808) : CallOk Tryd.prog 30 [.str s, .str [m]] (cutV m s) [] := by
  (refine callOk_of_wpc (W := fun _ => false) false hm' Tryd.func30 rfl (by kernel_rfl) (Nat.le_of_ble_eq_true rfl) (go_start ?_); generalize hQ : Post Tryd.prog Tryd.f30 _ _ _ _ _ = Q; simp only [stIn, matL, matA, st00])
  simp (disch := omega) only [go_sem, ↓k_cond, ↓x_idx, ↓k_block, Nat.reduceEqDiff, ↓reduceIte, reduceCtorEq, if_pos, if_neg, decide_eq_true, decide_eq_false, beqT, beqF, bneT, bneF, wrapI, wrapU32, wrapU64, wrapU8, nc_add, nc_addL, nc_addR, nc_mul, nc_mulL, nc_mulR, nc_div, nc_divL, nc_mod, nc_modL, nc_1, nc_sub1, natA_at, natA_put, eatH_one, Int.toNat_natCast, Option.map_some, shr32, shl32, List.getD_cons_zero, List.getD_cons_succ, List.length_set, List.set_cons_zero, List.set_cons_succ]
  refine x_callP (g_Index s m hs) c_Index (by simp [evA, upd_app, ofVal, ofCell]) (by simp [AV.pure, AV.pureL, natA_pure, natI_pure, natS_pure]) (by simp [AV.pure, AV.pureL, natA_pure, natI_pure, natS_pure]) ?_
  cases hf : findB m s with
  | none =>
    have e : findI m s = -1 := by simp [findI, hf]
    have e2 : cutV m s = .tup [.str s, .str [], .bool false] := by simp [cutV, hf]
    simp (disch := omega) only [go_sem, ↓k_cond, ↓x_idx, ↓k_block, Nat.reduceEqDiff, ↓reduceIte, reduceCtorEq, if_pos, if_neg, decide_eq_true, decide_eq_false, beqT, beqF, bneT, bneF, wrapI, wrapU32, wrapU64, wrapU8, nc_add, nc_addL, nc_addR, nc_mul, nc_mulL, nc_mulR, nc_div, nc_divL, nc_mod, nc_modL, nc_1, nc_sub1, natA_at, natA_put, eatH_one, Int.toNat_natCast, Option.map_some, shr32, shl32, List.getD_cons_zero, List.getD_cons_succ, List.length_set, List.set_cons_zero, List.set_cons_succ, e]
    rw [← hQ, e2]
    exact post_three (.inl rfl) rfl (by first | (simp only [upd_app, ↓reduceIte, Nat.reduceEqDiff]; done) | (simp [upd_app]; done) | (simp [upd_app]; omega)) (by first | (simp only [upd_app, ↓reduceIte, Nat.reduceEqDiff]; done) | (simp [upd_app]; done) | (simp [upd_app]; omega)) (by first | (simp only [upd_app, ↓reduceIte, Nat.reduceEqDiff]; done) | (simp [upd_app]; done) | (simp [upd_app]; omega)) rfl rfl rfl
  | some i =>
    have e : findI m s = i := by simp [findI, hf]
    have e2 : cutV m s = .tup [.str (s.take i), .str (s.drop (i + 1)), .bool true] := by simp [cutV, hf]
    have hi := (findB_lt hf).1
    simp (disch := omega) only [go_sem, ↓k_cond, ↓x_idx, ↓k_block, Nat.reduceEqDiff, ↓reduceIte, reduceCtorEq, if_pos, if_neg, decide_eq_true, decide_eq_false, beqT, beqF, bneT, bneF, wrapI, wrapU32, wrapU64, wrapU8, nc_add, nc_addL, nc_addR, nc_mul, nc_mulL, nc_mulR, nc_div, nc_divL, nc_mod, nc_modL, nc_1, nc_sub1, natA_at, natA_put, eatH_one, Int.toNat_natCast, Option.map_some, shr32, shl32, List.getD_cons_zero, List.getD_cons_succ, List.length_set, List.set_cons_zero, List.set_cons_succ, e, List.length_cons, List.length_nil, List.take_length]
    rw [← hQ, e2]
    exact post_three (.inl rfl) rfl (by first | (simp only [upd_app, ↓reduceIte, Nat.reduceEqDiff]; done) | (simp [upd_app]; done) | (simp [upd_app]; omega)) (by first | (simp only [upd_app, ↓reduceIte, Nat.reduceEqDiff]; done) | (simp [upd_app]; done) | (simp [upd_app]; omega)) (by first | (simp only [upd_app, ↓reduceIte, Nat.reduceEqDiff]; done) | (simp [upd_app]; done) | (simp [upd_app]; omega)) rfl rfl rfl
theorem g_Cut (s : List UInt8) (m : UInt8) (hs : s.length < 9223372036854775808) : CallOk Tryd.prog 22 [.str s, .str [m]] (cutV m s) [] := by
  (refine callOk_of_wpc (W := fun _ => false) false hm' Tryd.func22 rfl (by kernel_rfl) (Nat.le_of_ble_eq_true rfl) (go_start ?_); generalize hQ : Post Tryd.prog Tryd.f22 _ _ _ _ _ = Q; simp only [stIn, matL, matA, st00])
  simp (disch := omega) only [go_sem, ↓k_cond, ↓x_idx, ↓k_block, Nat.reduceEqDiff, ↓reduceIte, reduceCtorEq, if_pos, if_neg, decide_eq_true, decide_eq_false, beqT, beqF, bneT, bneF, wrapI, wrapU32, wrapU64, wrapU8, nc_add, nc_addL, nc_addR, nc_mul, nc_mulL, nc_mulR, nc_div, nc_divL, nc_mod, nc_modL, nc_1, nc_sub1, natA_at, natA_put, eatH_one, Int.toNat_natCast, Option.map_some, shr32, shl32, List.getD_cons_zero, List.getD_cons_succ, List.length_set, List.set_cons_zero, List.set_cons_succ]
  refine x_callP (g_sCut s m hs) c_sCut (by simp [evA, upd_app]) (by simp [AV.pure, AV.pureL]) (cutV_pure m s) ?_
  unfold cutV at hQ ⊢
  cases hf : findB m s with
  | none =>
    simp only [hf] at hQ
    simp (disch := omega) only [go_sem, ↓k_cond, ↓x_idx, ↓k_block, Nat.reduceEqDiff, ↓reduceIte, reduceCtorEq, if_pos, if_neg, decide_eq_true, decide_eq_false, beqT, beqF, bneT, bneF, wrapI, wrapU32, wrapU64, wrapU8, nc_add, nc_addL, nc_addR, nc_mul, nc_mulL, nc_mulR, nc_div, nc_divL, nc_mod, nc_modL, nc_1, nc_sub1, natA_at, natA_put, eatH_one, Int.toNat_natCast, Option.map_some, shr32, shl32, List.getD_cons_zero, List.getD_cons_succ, List.length_set, List.set_cons_zero, List.set_cons_succ]
    rw [← hQ]
    exact post_three (.inl rfl) rfl (by first | (simp only [upd_app, ↓reduceIte, Nat.reduceEqDiff]; done) | (simp [upd_app]; done) | (simp [upd_app]; omega)) (by first | (simp only [upd_app, ↓reduceIte, Nat.reduceEqDiff]; done) | (simp [upd_app]; done) | (simp [upd_app]; omega)) (by first | (simp only [upd_app, ↓reduceIte, Nat.reduceEqDiff]; done) | (simp [upd_app]; done) | (simp [upd_app]; omega)) rfl rfl rfl
  | some i =>
    simp only [hf] at hQ
    simp (disch := omega) only [go_sem, ↓k_cond, ↓x_idx, ↓k_block, Nat.reduceEqDiff, ↓reduceIte, reduceCtorEq, if_pos, if_neg, decide_eq_true, decide_eq_false, beqT, beqF, bneT, bneF, wrapI, wrapU32, wrapU64, wrapU8, nc_add, nc_addL, nc_addR, nc_mul, nc_mulL, nc_mulR, nc_div, nc_divL, nc_mod, nc_modL, nc_1, nc_sub1, natA_at, natA_put, eatH_one, Int.toNat_natCast, Option.map_some, shr32, shl32, List.getD_cons_zero, List.getD_cons_succ, List.length_set, List.set_cons_zero, List.set_cons_succ]
    rw [← hQ]
    exact post_three (.inl rfl) rfl (by first | (simp only [upd_app, ↓reduceIte, Nat.reduceEqDiff]; done) | (simp [upd_app]; done) | (simp [upd_app]; omega)) (by first | (simp only [upd_app, ↓reduceIte, Nat.reduceEqDiff]; done) | (simp [upd_app]; done) | (simp [upd_app]; omega)) (by first | (simp only [upd_app, ↓reduceIte, Nat.reduceEqDiff]; done) | (simp [upd_app]; done) | (simp [upd_app]; omega)) rfl rfl rfl
end Go.Proofs.YtogabejpbdmnnaaDoor

/- The contracts of the kit for strconv.ParseUint, laid at this program by the kit's tool. -/
namespace Go.Proofs.YtogabejpbdmnnaaDoor
open Go.Shelf
def laysPu14_ren : Go.Shelf.Ren := ⟨fun | 14 => 32 | 16 => 46 | 17 => 47 | 19 => 57 | 20 => 58 | 21 => 59 | 22 => 60 | 23 => 61 | 24 => 62 | 25 => 66 | 27 => 68 | 26 => 67 | 28 => 69 | 29 => 70 | 30 => 71 | 31 => 72 | 32 => 73 | 33 => 74 | 35 => 76 | 34 => 75 | 36 => 77 | 37 => 78 | 38 => 79 | 39 => 80 | 40 => 81 | n => n, fun | 9 => 9 | 3 => 3 | 22 => 57 | 24 => 64 | 25 => 65 | 4 => 4 | 34 => 92 | 5 => 5 | 36 => 68 | 37 => 94 | 0 => 0 | 39 => 95 | 21 => 21 | 44 => 102 | 47 => 105 | 50 => 108 | 48 => 106 | 2 => 2 | 52 => 110 | 55 => 113 | 59 => 116 | 60 => 67 | 20 => 20 | 61 => 117 | 65 => 120 | 66 => 121 | 67 => 122 | n => n, fun | 0 => 1 | 1 => 2 | 2 => 3 | 3 => 4 | 4 => 5 | n => n⟩
theorem laysPu14 : Go.Proofs.LaysPu.n14 Tryd.prog laysPu14_ren := {
  mixed := by kernel_rfl
  f14 := Tryd.func32.trans (congrArg some (by kernel_rfl))
  f16 := Tryd.func46.trans (congrArg some (by kernel_rfl))
  f17 := Tryd.func47.trans (congrArg some (by kernel_rfl))
  f19 := Tryd.func57.trans (congrArg some (by kernel_rfl))
  f20 := Tryd.func58.trans (congrArg some (by kernel_rfl))
  f21 := Tryd.func59.trans (congrArg some (by kernel_rfl))
  f22 := Tryd.func60.trans (congrArg some (by kernel_rfl))
  f23 := Tryd.func61.trans (congrArg some (by kernel_rfl))
  f24 := Tryd.func62.trans (congrArg some (by kernel_rfl))
  f25 := Tryd.func66.trans (congrArg some (by kernel_rfl))
  f26 := Tryd.func67.trans (congrArg some (by kernel_rfl))
  f27 := Tryd.func68.trans (congrArg some (by kernel_rfl))
  f28 := Tryd.func69.trans (congrArg some (by kernel_rfl))
  f29 := Tryd.func70.trans (congrArg some (by kernel_rfl))
  f30 := Tryd.func71.trans (congrArg some (by kernel_rfl))
  f31 := Tryd.func72.trans (congrArg some (by kernel_rfl))
  f32 := Tryd.func73.trans (congrArg some (by kernel_rfl))
  f33 := Tryd.func74.trans (congrArg some (by kernel_rfl))
  f34 := Tryd.func75.trans (congrArg some (by kernel_rfl))
  f35 := Tryd.func76.trans (congrArg some (by kernel_rfl))
  f36 := Tryd.func77.trans (congrArg some (by kernel_rfl))
  f37 := Tryd.func78.trans (congrArg some (by kernel_rfl))
  f38 := Tryd.func79.trans (congrArg some (by kernel_rfl))
  f39 := Tryd.func80.trans (congrArg some (by kernel_rfl))
  f40 := Tryd.func81.trans (congrArg some (by kernel_rfl))
  t0 := Tryd.underlying0
  a0 := Tryd.isAgg0
  z0 := Tryd.sizeOf0
  v0 := Tryd.zeroValue0
  i0 := by kernel_rfl
  t2 := Tryd.underlying2
  a2 := Tryd.isAgg2
  z2 := Tryd.sizeOf2
  v2 := Tryd.zeroValue2
  i2 := by kernel_rfl
  t3 := Tryd.underlying3
  a3 := Tryd.isAgg3
  z3 := Tryd.sizeOf3
  v3 := Tryd.zeroValue3
  i3 := by kernel_rfl
  t4 := Tryd.underlying4
  a4 := Tryd.isAgg4
  z4 := Tryd.sizeOf4
  v4 := Tryd.zeroValue4
  i4 := by kernel_rfl
  t5 := Tryd.underlying5
  a5 := Tryd.isAgg5
  z5 := Tryd.sizeOf5
  v5 := Tryd.zeroValue5
  i5 := by kernel_rfl
  t9 := Tryd.underlying9
  a9 := Tryd.isAgg9
  z9 := Tryd.sizeOf9
  v9 := Tryd.zeroValue9
  i9 := by kernel_rfl
  t20 := Tryd.underlying20
  a20 := Tryd.isAgg20
  z20 := Tryd.sizeOf20
  v20 := Tryd.zeroValue20
  i20 := by kernel_rfl
  t21 := Tryd.underlying21
  a21 := Tryd.isAgg21
  z21 := Tryd.sizeOf21
  v21 := Tryd.zeroValue21
  i21 := by kernel_rfl
  t22 := Tryd.underlying57
  a22 := Tryd.isAgg57
  z22 := Tryd.sizeOf57
  v22 := Tryd.zeroValue57
  i22 := by kernel_rfl
  t24 := Tryd.underlying64
  a24 := Tryd.isAgg64
  z24 := Tryd.sizeOf64
  v24 := Tryd.zeroValue64
  i24 := by kernel_rfl
  t25 := Tryd.underlying65
  a25 := Tryd.isAgg65
  z25 := Tryd.sizeOf65
  v25 := Tryd.zeroValue65
  i25 := by kernel_rfl
  t34 := Tryd.underlying92
  a34 := Tryd.isAgg92
  z34 := Tryd.sizeOf92
  v34 := Tryd.zeroValue92
  i34 := by kernel_rfl
  c34 := by kernel_rfl
  t36 := Tryd.underlying68
  a36 := Tryd.isAgg68
  z36 := Tryd.sizeOf68
  v36 := Tryd.zeroValue68
  i36 := by kernel_rfl
  t37 := Tryd.underlying94
  a37 := Tryd.isAgg94
  z37 := Tryd.sizeOf94
  v37 := Tryd.zeroValue94
  i37 := by kernel_rfl
  t39 := Tryd.underlying95
  a39 := Tryd.isAgg95
  z39 := Tryd.sizeOf95
  v39 := Tryd.zeroValue95
  i39 := by kernel_rfl
  t44 := Tryd.underlying102
  a44 := Tryd.isAgg102
  z44 := Tryd.sizeOf102
  v44 := Tryd.zeroValue102
  i44 := by kernel_rfl
  t47 := Tryd.underlying105
  a47 := Tryd.isAgg105
  z47 := Tryd.sizeOf105
  v47 := Tryd.zeroValue105
  i47 := by kernel_rfl
  t48 := Tryd.underlying106
  a48 := Tryd.isAgg106
  z48 := Tryd.sizeOf106
  v48 := Tryd.zeroValue106
  i48 := by kernel_rfl
  t50 := Tryd.underlying108
  a50 := Tryd.isAgg108
  z50 := Tryd.sizeOf108
  v50 := Tryd.zeroValue108
  i50 := by kernel_rfl
  t52 := Tryd.underlying110
  a52 := Tryd.isAgg110
  z52 := Tryd.sizeOf110
  v52 := Tryd.zeroValue110
  i52 := by kernel_rfl
  t55 := Tryd.underlying113
  a55 := Tryd.isAgg113
  z55 := Tryd.sizeOf113
  v55 := Tryd.zeroValue113
  i55 := by kernel_rfl
  t59 := Tryd.underlying116
  a59 := Tryd.isAgg116
  z59 := Tryd.sizeOf116
  v59 := Tryd.zeroValue116
  i59 := by kernel_rfl
  t60 := Tryd.underlying67
  a60 := Tryd.isAgg67
  z60 := Tryd.sizeOf67
  v60 := Tryd.zeroValue67
  i60 := by kernel_rfl
  t61 := Tryd.underlying117
  a61 := Tryd.isAgg117
  z61 := Tryd.sizeOf117
  t65 := Tryd.underlying120
  a65 := Tryd.isAgg120
  z65 := Tryd.sizeOf120
  v65 := Tryd.zeroValue120
  i65 := by kernel_rfl
  t66 := Tryd.underlying121
  a66 := Tryd.isAgg121
  z66 := Tryd.sizeOf121
  v66 := Tryd.zeroValue121
  i66 := by kernel_rfl
  t67 := Tryd.underlying122
  a67 := Tryd.isAgg122
  z67 := Tryd.sizeOf122
  v67 := Tryd.zeroValue122
  i67 := by kernel_rfl
  g0 := by kernel_rfl
  m0 := by kernel_rfl
  g1 := by kernel_rfl
  m1 := by kernel_rfl
  g2 := by kernel_rfl
  m2 := by kernel_rfl
  g3 := by kernel_rfl
  m3 := by kernel_rfl
  g4 := by kernel_rfl
  m4 := by kernel_rfl }
end Go.Proofs.YtogabejpbdmnnaaDoor

/- Digits read as0 numbers; strconv.ParseUint. -/
set_option linter.unusedSimpArgs false
set_option linter.unusedVariables false
namespace Go.Proofs.YtogabejpbdmnnaaDoor
open Go Go.RowKit

theorem c_ParseUint : callable Tryd.prog 32 = true := by kernel_rfl
def isDig (c : UInt8) : Bool := 48 ≤ c.toNat && c.toNat ≤ 57
/-- The number with these decimal digits. -/
def dval (s : List UInt8) : Nat := s.foldl (fun n c => 10 * n + (c.toNat - 48)) 0
theorem dval_from (s : List UInt8) (a : Nat) : s.foldl (fun n c => 10 * n + (c.toNat - 48)) a = a * 10 ^ s.length + dval s := by
  induction s generalizing a with
  | nil => simp [dval]
  | cons c cs ih =>
    simp only [dval, List.foldl_cons, List.length_cons]
    rw [ih, ih (10 * 0 + (c.toNat - 48)), Nat.pow_succ]
    simp only [Nat.mul_zero, Nat.zero_add, Nat.add_mul]
    have : 10 * a * 10 ^ cs.length = a * (10 ^ cs.length * 10) := by rw [Nat.mul_comm 10 a, Nat.mul_assoc, Nat.mul_comm 10]
    omega
theorem dval_append (s t : List UInt8) : dval (s ++ t) = dval s * 10 ^ t.length + dval t := by
  rw [dval, List.foldl_append, dval_from]; rfl
theorem dval_snoc (s : List UInt8) (c : UInt8) : dval (s ++ [c]) = 10 * dval s + (c.toNat - 48) := by simp [dval]
theorem dval_lt {s : List UInt8} (h : ∀ c ∈ s, isDig c = true) : dval s < 10 ^ s.length := by
  induction s with
  | nil => simp [dval]
  | cons c cs ih =>
    have hc : c.toNat - 48 ≤ 9 := by have := h c (by simp); simp [isDig] at this; omega
    have := ih fun d hd => h d (by simp [hd])
    have e := dval_append [c] cs
    have e1 : dval [c] = c.toNat - 48 := by simp [dval]
    rw [List.singleton_append] at e
    rw [e, e1, List.length_cons, Nat.pow_succ]
    have : (c.toNat - 48) * 10 ^ cs.length ≤ 9 * 10 ^ cs.length := Nat.mul_le_mul_right _ hc
    omega
theorem parse_digs : ∀ (s : List UInt8) (acc : Nat), (∀ c ∈ s, isDig c = true) → acc * 10 ^ s.length + dval s < 1000000000000000000 → Lib.parseUintM (2 ^ 64 - 1) acc s = .ok (acc * 10 ^ s.length + dval s)
  | [], acc, _, _ => by simp [Lib.parseUintM, dval]
  | c :: cs, acc, h, hlt => by
    have hc := h c (by simp)
    simp only [isDig, Bool.and_eq_true, decide_eq_true_eq] at hc
    have e := dval_append [c] cs
    have e1 : dval [c] = c.toNat - 48 := by simp [dval]
    rw [List.singleton_append, e1] at e
    have e2 : acc * 10 ^ (c :: cs).length + dval (c :: cs) = (acc * 10 + (c.toNat - 48)) * 10 ^ cs.length + dval cs := by
      rw [e, List.length_cons, Nat.pow_succ, Nat.add_mul, Nat.mul_comm (10 ^ cs.length) 10, Nat.mul_assoc]; omega
    rw [e2] at hlt ⊢
    have hp : 0 < 10 ^ cs.length := Nat.pow_pos (by omega)
    have h3 : (acc * 10 + (c.toNat - 48)) * 1 ≤ (acc * 10 + (c.toNat - 48)) * 10 ^ cs.length := Nat.mul_le_mul_left _ hp
    simp only [Lib.parseUintM]
    have hbig : ¬ 2 ^ 64 - 1 < acc * 10 + (c.toNat - 48) := by
      have : (2 : Nat) ^ 64 - 1 = 18446744073709551615 := by decide
      omega
    rw [if_pos hc, if_neg (by omega), if_neg hbig]
    exact parse_digs cs _ (fun d hd => h d (by simp [hd])) hlt
theorem g_ParseUint (s : List UInt8) (h : ∀ c ∈ s, isDig c = true) (h0 : s ≠ []) (hl : s.length ≤ 18) : CallOk Tryd.prog 32 [.str s, .int .i64 10, .int .i64 64] (.tup [.int .u64 (dval s), .undef]) [] := by
  have hlt : dval s < 1000000000000000000 := Nat.lt_of_lt_of_le (dval_lt h) (Nat.le_trans (Nat.pow_le_pow_right (by omega) hl) (by decide))
  refine callOk_of_below (vals := [.string ⟨s.toArray⟩, .int .i64 10, .int .i64 64]) (v := .tuple #[.int .u64 (dval s), .nilIface]) (fun E => ownL_cons (fun _ _ => own_str) (ownL_cons (fun _ _ => own_int) (ownL_cons (fun _ _ => own_int) ownL_nil)))
    (fun E => by simp only [ownR]; exact ⟨[.int .u64 (dval s), .nilIface], rfl, by simp only [ownRL, ownR, rep]; exact ⟨_, _, [], [], rfl, rfl, ⟨rfl, rfl⟩, _, [], [], [], rfl, rfl, rfl, rfl, rfl⟩⟩) fun w => ?_
  have hp : Lib.parseUintB 64 s = .ok (dval s) := by
    have := parse_digs s 0 h (by simpa using hlt)
    rw [Nat.zero_mul, Nat.zero_add] at this
    rw [Lib.parseUintB, if_neg h0, this]
  refine (Any.strconv_ParseUint_10_at64_ok laysPu14 ⟨s.toArray⟩ (by simp [ByteArray.size]; omega) (dval s) (by simpa using hp) w).mono ?_
  rintro e w' ⟨rfl, hw⟩
  refine ⟨rfl, ?_⟩
  rcases hw with rfl | rfl
  · exact Below.refl _ _
  · exact Lib.bytesWorld_below _ _ _
end Go.Proofs.YtogabejpbdmnnaaDoor
