/- Part 10 of the ground of the proofs of this seat. -/
import Derived.ProofKit
import Derived.LaidMore
import Derived.LaidLaws
import Derived.LaidHandle
import Derived.OpenShut
import Derived.WalkKit
import Derived.ShutString
import Derived.SizedLaws
import Derived.SliceStrings
import Derived.Below
import Derived.Carry
import Derived.Stop.Joined
import Derived.SevenTiedAt
import Derived.Stop.LaidErr
import Derived.Test.YtmlbjakkojbdlaaGreatDoorM9

set_option linter.unusedVariables false
set_option linter.unusedSimpArgs false
set_option maxRecDepth 100000
namespace Go.Proofs.YtmlbjakkojbdlaaGreatDoor
open Go

theorem sign_ne {a : Rat} (h : a.num ≠ 0) : a.num.sign ≠ 0 := fun e => h (Int.sign_eq_zero_iff_zero.1 e)
set_option maxHeartbeats 1000000 in
theorem w_mul {m n : Nat} {a b : Rat} (h : m + n ≤ 274877906944) : CW Tryz.prog 64 [rI m a, rI n b] (rI (m + n) (a * b)) := by
  refine cw (by kernel_rfl) (by simp [AV.pure, AV.pureL, natA_pure, natI_pure, natS_pure]) (by simp [AV.pure, AV.pureL, natA_pure, natI_pure, natS_pure]) ?_
  refine callOk_told (x := rI m a) told_rI (by simp) (by simp [AV.pure, AV.pureL, natA_pure, natI_pure, natS_pure]) fun ha => ?_
  refine callOk_told (x := rI n b) told_rI (by simp) (by simp [AV.pure, AV.pureL, natA_pure, natI_pure, natS_pure]) fun hb => ?_
  have hsa := w_sign (a := a) (m := m) (by omega)
  have hsb := w_sign (a := b) (m := n) (by omega)
  rw [rI_eq ha] at hsa
  rw [rI_eq hb] at hsb
  obtain ⟨p, x, d, ea, hd0, hx0, hx, hd, hg1⟩ := parts_of ha
  obtain ⟨q, y, e, eb, he0, hy0, hy, he, hg2⟩ := parts_of hb
  have hz := w_whole (n := 0) (by omega) (by omega)
  have hz0 : (((0 : Int) : Rat)) = 0 := rfl
  rw [hz0] at hz
  rw [ea] at hsa; rw [eb] at hsb
  by_cases h0 : a.num = 0 ∨ b.num = 0
  · have e0 : a * b = 0 := by rcases h0 with h0 | h0 <;> rw [num_zero.1 h0] <;> simp
    have f0 : fits (m + n) (0 : Rat) := e0 ▸ fits_mul ha hb (fits_pos ha)
    have f64 : fits 64 (0 : Rat) := fits_int (n := 0) (by decide) (by decide)
    have e1 : rI 64 (0 : Rat) = rI (m + n) 0 := by rw [rI_eq f0, rI_eq f64]
    rw [e1] at hz
    rw [e0, rI_eq ha, rI_eq hb, ea, eb]
    obtain ⟨s, hs⟩ : ∃ s, a.num.sign = s := ⟨_, rfl⟩
    obtain ⟨t, ht⟩ : ∃ s, b.num.sign = s := ⟨_, rfl⟩
    have hst : s = 0 ∨ t = 0 := h0.imp (fun h => by rw [← hs, h]; rfl) (fun h => by rw [← ht, h]; rfl)
    rw [hs] at hsa; rw [ht] at hsb
    simp only [ratI, natI] at hsa hsb
    clear e0 e1 f0 f64 h0 hs ht ea eb hx0 hy0
    by_cases hs0 : s = 0
    · subst hs0
      (refine callOk_of_wpcD (W := ⟨fun _ => false, fun r => if r = 3 then some [(1, 10), (3, 10), (6, 10), (8, 10), (1, 11), (3, 11), (6, 11), (8, 11), (10, 11)] else none⟩) false hm' Tryz.func64 rfl (by kernel_rfl) (Nat.le_of_ble_eq_true rfl) (go_start ?_); generalize hQ : Post Tryz.prog Tryz.f64 _ _ _ _ _ = Q; simp only [stIn, matL, matA, st00, natI,ratI])
      simp (disch := omega) only [go_sem, ↓k_cond, ↓x_idx, ↓k_block, Nat.reduceEqDiff, Nat.reduceBEq, ↓reduceIte, reduceCtorEq, ↓k_appE, hsa, hsb, hz]
      (repeat (with_reducible refine Or.inr ?_))
      rw [← hQ]
      exact post_cell1 (id := 2) (x := rI (m + n) 0) (.inl rfl) rfl o_iRat (by simp [upd_app] <;> omega) (by simp [upd_app]) (by simp [upd_app]) ld_iRat (by simp [AV.pure, AV.pureL])
    · have : t = 0 := by omega
      subst this
      (refine callOk_of_wpcD (W := ⟨fun _ => false, fun r => if r = 3 then some [(1, 10), (3, 10), (6, 10), (8, 10), (1, 11), (3, 11), (6, 11), (8, 11), (10, 11)] else none⟩) false hm' Tryz.func64 rfl (by kernel_rfl) (Nat.le_of_ble_eq_true rfl) (go_start ?_); generalize hQ : Post Tryz.prog Tryz.f64 _ _ _ _ _ = Q; simp only [stIn, matL, matA, st00, natI,ratI])
      simp (disch := omega) only [go_sem, ↓k_cond, ↓x_idx, ↓k_block, Nat.reduceEqDiff, Nat.reduceBEq, ↓reduceIte, reduceCtorEq, ↓k_appE, hsa, hsb, hz]
      (repeat (with_reducible refine Or.inr ?_))
      rw [← hQ]
      exact post_cell1 (id := 2) (x := rI (m + n) 0) (.inl rfl) rfl o_iRat (by simp [upd_app] <;> omega) (by simp [upd_app]) (by simp [upd_app]) ld_iRat (by simp [AV.pure, AV.pureL])
  have hs := sign_ne (a := a) (by omega)
  have ht := sign_ne (a := b) (by omega)
  have hxn := hx0.1 (by omega)
  have hyn := hy0.1 (by omega)
  rw [rI_eq (fits_mul ha hb (fits_pos ha)), rI_eq ha, rI_eq hb, mul_low ea eb hd0 he0, cross_low hxn hyn hd0 he0 hg1 hg2, ea, eb]
  generalize a.num.sign = s at hsa hs
  generalize b.num.sign = t at hsb ht
  have lx := len32 hx
  have ld := len32 hd
  have ly := len32 hy
  have le := len32 he
  have l1 := w_low (b := false) (m := x) (n := e) (by omega) (by omega) he0
  have l2 := w_low (b := false) (m := y) (n := d) (by omega) (by omega) hd0
  have k1 := enc_div_len (B := B32) (m := x) (g := Nat.gcd x e) B32_gt
  have k2 := enc_div_len (B := B32) (m := e) (g := Nat.gcd x e) B32_gt
  have k3 := enc_div_len (B := B32) (m := y) (g := Nat.gcd y d) B32_gt
  have k4 := enc_div_len (B := B32) (m := d) (g := Nat.gcd y d) B32_gt
  generalize x / Nat.gcd x e = x' at *
  generalize e / Nat.gcd x e = e' at *
  generalize y / Nat.gcd y d = y' at *
  generalize d / Nat.gcd y d = d' at *
  have m1 := w_natMul (a := x') (b := y') (by omega) (by omega)
  have m2 := w_natMul (a := e') (b := d') (by omega) (by omega)
  rw [Bool.false_and] at l1 l2
  rw [bne]
  simp only [ratI, natI] at hsa hsb l1 l2 m1 m2
  clear k1 k2 k3 k4 lx ld ly le hx hy hd he hx0 hy0 hg1 hg2 ea eb ha hb h0 hz hz0
  (refine callOk_of_wpcD (W := ⟨fun _ => false, fun r => if r = 3 then some [(1, 10), (3, 10), (6, 10), (8, 10), (1, 11), (3, 11), (6, 11), (8, 11), (10, 11)] else none⟩) false hm' Tryz.func64 rfl (by kernel_rfl) (Nat.le_of_ble_eq_true rfl) (go_start ?_); generalize hQ : Post Tryz.prog Tryz.f64 _ _ _ _ _ = Q; simp only [stIn, matL, matA, st00, natI,ratI])
  simp (disch := omega) only [go_sem, ↓k_cond, ↓x_idx, ↓k_block, Nat.reduceEqDiff, Nat.reduceBEq, ↓reduceIte, reduceCtorEq, ↓k_appE, hsa, hsb, l1, l2, m1, m2]
  (repeat (with_reducible refine Or.inr ?_))
  rw [← hQ]
  exact post_cell1 (id := 2) (x := ratI (!(p == q), x' * y', e' * d')) (.inl rfl) rfl o_iRat (by simp [upd_app] <;> omega) (by simp [upd_app]) (by simp [upd_app, natI, ratI]) ld_iRat (by simp)
attribute [go_sem] w_mul
attribute [go_sem] w_mul
def cmpR (a b : Rat) : Int := cmpQ (qd a) (qd b)
theorem cmpR_lt {a b : Rat} : cmpR a b < 0 ↔ a < b := (cmp_lt a b).1
theorem cmpR_eq {a b : Rat} : cmpR a b = 0 ↔ a = b := (cmp_lt a b).2
theorem cmpR_gt {a b : Rat} : 0 < cmpR a b ↔ b < a := by
  have h1 := cmpR_lt (a := a) (b := b)
  have h2 := cmpR_eq (a := a) (b := b)
  constructor
  · intro h
    rcases Classical.em (b < a) with h' | h'
    · exact h'
    · have := Rat.not_lt.1 h'
      rcases Rat.le_iff_lt_or_eq.1 this with h3 | h3
      · have := h1.2 h3; omega
      · have := h2.2 h3; omega
  · intro h
    have n1 : ¬ cmpR a b < 0 := fun h' => Rat.not_lt.2 (Rat.le_of_lt h) (h1.1 h')
    have n2 : ¬ cmpR a b = 0 := fun h' => by rw [h2.1 h'] at h; exact Rat.lt_irrefl h
    omega
theorem w_cmp {m n : Nat} {a b : Rat} (h : m + n ≤ 274877906944) : CW Tryz.prog 35 [rI m a, rI n b] (.int .i64 (cmpR a b)) := by
  refine cw (by kernel_rfl) (by simp [AV.pure, AV.pureL, natA_pure, natI_pure, natS_pure]) (by simp [AV.pure, AV.pureL, natA_pure, natI_pure, natS_pure]) ?_
  refine callOk_told (x := rI m a) told_rI (by simp) (by simp [AV.pure, AV.pureL, natA_pure, natI_pure, natS_pure]) fun ha => ?_
  refine callOk_told (x := rI n b) told_rI (by simp) (by simp [AV.pure, AV.pureL, natA_pure, natI_pure, natS_pure]) fun hb => ?_
  have hsa := w_sign (a := a) (m := m) (by omega)
  have hsb := w_sign (a := b) (m := n) (by omega)
  rw [rI_eq ha] at hsa
  rw [rI_eq hb] at hsb
  have e1 := sgnQ_qd a
  have e2 := sgnQ_qd b
  obtain ⟨p, x, d, ea, hd0, hx0, hx, hd, hg1⟩ := parts_of ha
  obtain ⟨q, y, e, eb, he0, hy0, hy, he, hg2⟩ := parts_of hb
  have b1 : a.num.sign = -1 ∨ a.num.sign = 0 ∨ a.num.sign = 1 := by rcases Int.lt_trichotomy a.num 0 with h | h | h <;> simp [h, Int.sign_eq_neg_one_of_neg, Int.sign_eq_one_of_pos]
  have b2 : b.num.sign = -1 ∨ b.num.sign = 0 ∨ b.num.sign = 1 := by rcases Int.lt_trichotomy b.num 0 with h | h | h <;> simp [h, Int.sign_eq_neg_one_of_neg, Int.sign_eq_one_of_pos]
  rw [ea] at hsa e1; rw [eb] at hsb e2
  rw [cmpR, cmpQ, rI_eq ha, rI_eq hb, ea, eb, e1, e2]
  generalize a.num.sign = s at *
  generalize b.num.sign = t at *
  have m1 := w_natMul (a := x) (b := e) (by have := len32 hx; omega) (by have := len32 he; omega)
  have m2 := w_natMul (a := y) (b := d) (by have := len32 hy; omega) (by have := len32 hd; omega)
  have hc := w_natCmp (a := x * e) (b := y * d) (Nat.lt_of_le_of_lt (len32 (mul_lt_pow hx he)) (by omega)) (Nat.lt_of_le_of_lt (len32 (mul_lt_pow hy hd)) (by omega))
  have hn : cmpN (x * e) (y * d) = cmpI (x * e) (y * d) := by simp [cmpI, cmpN]
  have b3 : cmpI (x * e) (y * d) = -1 ∨ cmpI (x * e) (y * d) = 0 ∨ cmpI (x * e) (y * d) = 1 := by
    rcases Nat.lt_trichotomy (x * e) (y * d) with h | h | h
    · left; exact cmpI_lt h
    · right; left; rw [h]; exact cmpI_eq _
    · right; right; exact cmpI_gt h
  simp only [hn]
  generalize cmpI (x * e) (y * d) = c at *
  simp only [ratI, natI] at hsa hsb m1 m2 hc
  clear hn hx hy hd he hx0 hy0 hg1 hg2 ea eb ha hb hd0 he0 e1 e2
  by_cases hst : s = t
  · subst hst
    rw [if_neg (by simp)]
    cases p
    · rw [if_neg (by simp)]
      (refine callOk_of_wpc (W := fun _ => false) false hm' Tryz.func35 rfl (by kernel_rfl) (Nat.le_of_ble_eq_true rfl) (go_start ?_); generalize hQ : Post Tryz.prog Tryz.f35 _ _ _ _ _ = Q; simp only [stIn, matL, matA, st00, natI,ratI])
      simp (disch := omega) only [go_sem, ↓k_cond, ↓x_idx, ↓k_block, Nat.reduceEqDiff, Nat.reduceBEq, ↓reduceIte, reduceCtorEq, hsa, hsb, m1, m2, hc]
      (repeat (with_reducible refine Or.inr ?_))
      rw [← hQ]
      exact post_one (.inl rfl) rfl (by simp [upd_app] <;> omega) rfl
    · rw [if_pos rfl]
      (refine callOk_of_wpc (W := fun _ => false) false hm' Tryz.func35 rfl (by kernel_rfl) (Nat.le_of_ble_eq_true rfl) (go_start ?_); generalize hQ : Post Tryz.prog Tryz.f35 _ _ _ _ _ = Q; simp only [stIn, matL, matA, st00, natI,ratI])
      simp (disch := omega) only [go_sem, ↓k_cond, ↓x_idx, ↓k_block, Nat.reduceEqDiff, Nat.reduceBEq, ↓reduceIte, reduceCtorEq, hsa, hsb, m1, m2, hc]
      (repeat (with_reducible refine Or.inr ?_))
      rw [← hQ]
      exact post_one (.inl rfl) rfl (by simp [upd_app]) rfl
  · rw [if_pos hst]
    (refine callOk_of_wpc (W := fun _ => false) false hm' Tryz.func35 rfl (by kernel_rfl) (Nat.le_of_ble_eq_true rfl) (go_start ?_); generalize hQ : Post Tryz.prog Tryz.f35 _ _ _ _ _ = Q; simp only [stIn, matL, matA, st00, natI,ratI])
    simp (disch := omega) only [go_sem, ↓k_cond, ↓x_idx, ↓k_block, Nat.reduceEqDiff, Nat.reduceBEq, ↓reduceIte, reduceCtorEq, hsa, hsb]
    (repeat (with_reducible refine Or.inr ?_))
    rw [← hQ]
    exact post_one (.inl rfl) rfl (by simp [upd_app]) rfl
attribute [go_sem] w_cmp
attribute [go_sem] w_cmp
theorem w_isMinus {m : Nat} {a : Rat} (h : m ≤ 274877906944) : CW Tryz.prog 46 [rI m a] (.bool (decide (a < 0))) := by
  refine cw (by kernel_rfl) (by simp [AV.pure, AV.pureL, natA_pure, natI_pure, natS_pure]) (by simp [AV.pure, AV.pureL, natA_pure, natI_pure, natS_pure]) ?_
  rw [← num_neg]
  have b1 : decide (a.num < 0) = decide (a.num.sign < 0) := by
    rcases Int.lt_trichotomy a.num 0 with h | h | h
    · rw [Int.sign_eq_neg_one_of_neg h]; simp [h]
    · rw [h]; rfl
    · rw [Int.sign_eq_one_of_pos h]; exact decide_eq_decide.2 (by omega)
  have hsa := w_sign (a := a) (m := m) (by omega)
  simp only [rI] at hsa
  rw [b1]
  rw [b1] at hsa
  generalize decide (a.num.sign < 0) = p at *
  (refine callOk_of_wpc (W := fun _ => false) false hm' Tryz.func46 rfl (by kernel_rfl) (Nat.le_of_ble_eq_true rfl) (go_start ?_); generalize hQ : Post Tryz.prog Tryz.f46 _ _ _ _ _ = Q; simp only [stIn, matL, matA, st00])
  simp (disch := omega) only [go_sem, ↓k_cond, ↓x_idx, ↓k_block, Nat.reduceEqDiff, Nat.reduceBEq, ↓reduceIte, reduceCtorEq, hsa]
  (repeat (with_reducible refine Or.inr ?_))
  rw [← hQ]
  exact post_one (.inl rfl) rfl (by simp [upd_app] <;> omega) rfl
attribute [go_sem] w_isMinus
attribute [go_sem] int_cast_0 int_cast_1
def sumL (qs : List Rat) : Rat := qs.foldl (· + ·) 0
theorem sumL_snoc {qs : List Rat} {q : Rat} : sumL (qs ++ [q]) = sumL qs + q := by simp [sumL]
theorem sumL_take {qs : List Rat} {i : Nat} {q : Rat} (h : qs[i]? = some q) : sumL (qs.take (i + 1)) = sumL (qs.take i) + q := by rw [List.take_add_one, h]; exact sumL_snoc
attribute [go_sem] w_isMinus
theorem w_sum {m : Nat} {qs : List Rat} (hm : m ≤ 100000) (hl : qs.length ≤ 1000) : CW Tryz.prog 47 [lI m qs] (rI (64 + qs.length * (m + 1)) (sumL qs)) := by
  refine cw (by kernel_rfl) (by simp [AV.pure, AV.pureL, natA_pure, natI_pure, natS_pure]) (by simp [AV.pure, AV.pureL, natA_pure, natI_pure, natS_pure]) ?_
  obtain ⟨n, hn⟩ : ∃ n, qs.length = n := ⟨_, rfl⟩
  rw [hn] at hl ⊢
  (refine callOk_of_wpc (W := fun _ => false) false hm' Tryz.func47 rfl (by kernel_rfl) (Nat.le_of_ble_eq_true rfl) (go_start ?_); generalize hQ : Post Tryz.prog Tryz.f47 _ _ _ _ _ = Q; simp only [stIn, matL, matA, st00])
  simp (disch := omega) only [go_sem, ↓k_cond, ↓x_idx, ↓k_block, Nat.reduceEqDiff, Nat.reduceBEq, ↓reduceIte, reduceCtorEq, hn]
  (repeat (with_reducible refine Or.inr ?_))
  refine k_loop (fun (i : Nat) st => st.fr 0 = lI m qs ∧ st.fr 2 = .ptr 0 1 0 0 ∧ st.fr 3 = .ptr 1 1 0 0 ∧ st.fr 7 = lI m qs ∧ st.fr 8 = .int .i64 n ∧ st.fr 9 = .int .i64 i ∧ st.h 0 = ⟨53, [.agg [.bool false, .nil, .nil]], true, false, true⟩ ∧ st.h 1 = ⟨53, [rI (64 + i * (m + 1)) (sumL (qs.take i))], true, false, true⟩ ∧ 1 < st.nx ∧ (i ≤ n)) (fun (i : Nat) => n - i) (0)
    ⟨(by simp [upd_app, sumL] <;> omega), (by simp [upd_app, sumL] <;> omega), (by simp [upd_app, sumL] <;> omega), (by simp [upd_app, sumL] <;> omega), (by simp [upd_app, sumL] <;> omega), (by simp [upd_app, sumL] <;> omega), (by simp [upd_app, sumL] <;> omega), (by simp [upd_app, sumL] <;> omega), (by simp <;> omega), by omega⟩ ?_
  rintro i ⟨fr, h, nx⟩ ⟨g0, g2, g3, g7, g8, g9, hm0, hm1, hnx, hi⟩ J hJ
  simp only at g0 g2 g3 g7 g8 g9 hm0 hm1 hnx
  by_cases hin : i < n
  · obtain ⟨q, hq⟩ := get_some (xs := qs) (i := i) (by omega)
    have hb : i * (m + 1) ≤ 1000 * 100001 := Nat.mul_le_mul (by omega) (by omega)
    have e : 64 + (i + 1) * (m + 1) = 64 + i * (m + 1) + m + 1 := by rw [Nat.add_mul]; omega
    have key := hJ (i + 1)
    rw [sumL_take hq, e] at key
    simp (disch := omega) only [go_sem, ↓k_cond, ↓x_idx, ↓k_block, Nat.reduceEqDiff, Nat.reduceBEq, ↓reduceIte, reduceCtorEq, g0, g2, g3, g7, g8, g9, hm0, hm1, hq, hn]
    (repeat (with_reducible refine Or.inr ?_))
    exact key _ ⟨(by simp [upd_app, g0] <;> omega), (by simp [upd_app, g2] <;> omega), (by simp [upd_app, g3] <;> omega), (by simp [upd_app, g7] <;> omega), (by simp [upd_app, g8] <;> omega), (by simp [upd_app] <;> omega), (by simp [upd_app, hm0] <;> omega), (by simp [upd_app] <;> omega), (by simp <;> omega), hin⟩ (by omega)
  · obtain rfl : i = n := by omega
    rw [List.take_of_length_le (by omega)] at hm1
    simp (disch := omega) only [go_sem, ↓k_cond, ↓x_idx, ↓k_block, Nat.reduceEqDiff, Nat.reduceBEq, ↓reduceIte, reduceCtorEq, g0, g2, g3, g7, g8, g9, hm0, hm1, hn]
    (repeat (with_reducible refine Or.inr ?_))
    rw [← hQ]
    exact post_cell1 (id := 0) (x := rI (64 + i * (m + 1)) (sumL qs)) (.inl rfl) rfl o_iRat (by simp [upd_app, g2] <;> omega) (by simp [upd_app]) (by simp [upd_app]) ld_iRat (by simp [AV.pure, AV.pureL])
attribute [go_sem] w_sum
mutual
theorem rep_cut {P : Program} {E E' : Env} {h : Nat → Blk} {nx : Nat} (hE : E.nx = nx) (hh : ∀ i, i < nx → E'.h i = h i) : ∀ (x : AV) (v0 v : Value), rep P E x v0 → rep P E' x v → rep P ⟨E'.w, E'.I, E'.m, h, nx⟩ x v
 | .undef, _, _, _, _ => by simp [rep]
 | .bool b, _, v, _, k => by simpa [rep] using k
 | .int i n, _, v, _, k => by simpa [rep] using k
 | .str s, _, v, _, k => by simpa [rep] using k
 | .nil, _, v, _, k => by simpa [rep] using k
 | .sl t xs sp ex, v0, v, k0, k => by
  simp only [rep] at k0 k ⊢
  obtain ⟨_, _, _, _, _, _, ws, us', m4, m5, _⟩ := k0
  obtain ⟨a, cap, h1, h2, h3, h7, vs, us, h4, h5, h6⟩ := k
  exact ⟨a, cap, h1, h2, h3, h7, vs, us, repL_cut hE hh xs ws vs m4 h4, repL_cut hE hh sp us' us m5 h5, h6⟩
 | .ref id n off len, v0, v, k0, k => by
  simp only [rep] at k0 k ⊢
  have hlt : id < nx := by rw [← hE]; exact k0.1
  obtain ⟨_, h2, h3⟩ := k
  rw [hh id hlt] at h2 h3
  exact ⟨hlt, h2, h3⟩
 | .own .., _, _, _, k => by simp [rep] at k
 | .ptr id n i j, v0, v, k0, k => by
  simp only [rep] at k0 k ⊢
  have hlt : id < nx := by rw [← hE]; exact k0.1
  obtain ⟨_, h2, h3⟩ := k
  rw [hh id hlt] at h2 h3
  exact ⟨hlt, h2, h3⟩
 | .cptr t x j, v0, v, k0, k => by
  simp only [rep] at k0 k ⊢
  obtain ⟨_, _, _, _, u0, _, _, _, m4, _⟩ := k0
  obtain ⟨b, off, c, fz, u, h1, h2, h3, h4, h6, h5⟩ := k
  exact ⟨b, off, c, fz, u, h1, h2, h3, rep_cut hE hh x u0 u m4 h4, h6, h5⟩
 | .fn f first cap, v0, v, k0, k => by
  simp only [rep] at k0 k ⊢
  obtain ⟨ws, us', _, m2, m3⟩ := k0
  obtain ⟨vs, us, h1, h2, h3⟩ := k
  exact ⟨vs, us, h1, repL_cut hE hh first ws vs m2 h2, repL_cut hE hh cap us' us m3 h3⟩
 | .agg cs, v0, v, k0, k => by
  simp only [rep] at k0 k ⊢
  obtain ⟨ws, _, m2⟩ := k0
  obtain ⟨vs, h1, h2⟩ := k
  exact ⟨vs, h1, repL_cut hE hh cs ws vs m2 h2⟩
 | .tup xs, v0, v, k0, k => by
  simp only [rep] at k0 k ⊢
  obtain ⟨ws, _, m2⟩ := k0
  obtain ⟨vs, h1, h2⟩ := k
  exact ⟨vs, h1, repL_cut hE hh xs ws vs m2 h2⟩
theorem repL_cut {P : Program} {E E' : Env} {h : Nat → Blk} {nx : Nat} (hE : E.nx = nx) (hh : ∀ i, i < nx → E'.h i = h i) : ∀ (xs : List AV) (vs0 vs : List Value), repL P E xs vs0 → repL P E' xs vs → repL P ⟨E'.w, E'.I, E'.m, h, nx⟩ xs vs
 | [], _, vs, _, k => by simpa [repL] using k
 | x :: xs, vs0, vs, k0, k => by
  simp only [repL] at k0 k ⊢
  obtain ⟨v0, us0, _, m2, m3⟩ := k0
  obtain ⟨v, us, h1, h2, h3⟩ := k
  exact ⟨v, us, h1, rep_cut hE hh x v0 v m2 h2, repL_cut hE hh xs us0 us m3 h3⟩
end

def PostF (P : Program) (fn : Func) (x : AV) (h : Nat → Blk) (nx : Nat) (e : Ex) (st : St) : Prop :=
 (match e with | .exit _ => False | _ => True) ∧ resV P st fn.results.toList = some x ∧ (∀ i, i < nx → st.h i = h i) ∧ nx ≤ st.nx

theorem inOkF_of_wpc {P : Program} {W : WP} {f : FuncId} {fn : Func} {c : Code} {args : List AV} {x : AV} {fr : Nat → AV} {h : Nat → Blk} {nx : Nat} (hm : P.follows .mixedOrders = true) (hf : P.funcs[f]? = some fn) (hb : fn.body = some c)
    (hok : codeOk W fn.ntmps c = true) (hn : args.length ≤ fn.ntmps) (hp : x.pure = true) (hw : wpc P W c ⟨fun i => args.getD i .undef, h, nx⟩ (PostF P fn x h nx)) : InOk P ⟨fr, h, nx⟩ f args x ⟨fr, h, nx⟩ := by
  refine ⟨rfl, fun E vs hE hh hnx has => ?_⟩
  simp only at hh hnx
  have hargl : args.length = vs.length := (repL_length has).symm
  refine calls_of_wp hf hb ?_
  have hR : Rel P E ⟨fun i => args.getD i .undef, h, nx⟩ { tmps := vs.toArray ++ Array.replicate (fn.ntmps - vs.toArray.size) undef, defers := [] } := by
    refine ⟨hE, hh, hnx, fun t => ?_⟩
    by_cases ht : t < args.length
    · have h1 : args[t]? = some (args[t]'(by omega)) := List.getElem?_eq_getElem (by omega)
      obtain ⟨v, hv, hr⟩ := repL_get has t _ h1
      simp only [List.getD_eq_getElem?_getD, h1]
      rw [Array.getD_eq_getD_getElem?, Array.getElem?_append_left (by simp; omega)]
      have : vs.toArray[t]? = some v := by simpa using hv
      rw [this]; exact hr
    · simp only [List.getD_eq_getElem?_getD]
      rw [List.getElem?_eq_none (by omega)]
      simp [rep]
  have hsize : (vs.toArray ++ Array.replicate (fn.ntmps - vs.toArray.size) undef).size = fn.ntmps := by simp; omega
  refine wp_mono (wpc_sound hm c hok _ _ _ E hw hR hsize rfl) fun e a' w' hq => ?_
  obtain ⟨y, st', E', rfl, ⟨hy, hv, h1, h2⟩, rfl, hR', hn', hd', hle, hgo⟩ := hq
  obtain ⟨u, hres, hru⟩ := resV_sound hR' hv
  have hold : ∀ i, i < nx → E'.h i = h i := fun i hi => by rw [← hR'.h]; exact h1 i hi
  obtain ⟨E2, hE2⟩ : ∃ E2 : Env, E2 = ⟨E'.w, E'.I, E'.m, h, nx⟩ := ⟨_, rfl⟩
  have hmm : ∀ id, (h id).lv = true → id < nx ∧ E'.m id = E.m id := by
    intro id hl
    have hB := hE.blk id (by rw [← hh]; exact hl)
    have hlt : id < nx := by rw [hnx]; exact hB.lt
    have e1 : E'.h id = E.h id := by rw [hold id hlt, hh]
    obtain ⟨_, _, _, k4⟩ := hle.prv id (by rw [← hnx]; exact hlt) (E.h id).xs.length (Nat.le_refl _) (by rw [e1, ← hh]; exact hl) (by rw [e1])
    exact ⟨hlt, k4⟩
  have hLe : E.Le E2 := by
    rw [hE2]
    refine ⟨by rw [hnx]; exact Nat.le_refl _, hle.imm, fun id _ => by rw [hh]; exact Nat.le_refl _, fun id hid n hn k1 k2 => ?_⟩
    simp only at k1 k2 ⊢
    rw [hh] at k1 k2 ⊢
    exact ⟨k1, k2, rfl, (hmm id (by rw [hh]; exact k1)).2⟩
  have hOk : Ok P E2 := by
    rw [hE2]
    refine ⟨fun id hl => ?_, fun i j hi hj e => ?_, hR'.ok.imm, hR'.ok.tab⟩
    · simp only at hl
      obtain ⟨hlt, hm1⟩ := hmm id hl
      have e1 := hold id hlt
      have hB := hR'.ok.blk id (by rw [e1]; exact hl)
      have hB0 := hE.blk id (by rw [← hh]; exact hl)
      obtain ⟨c, ws, g1, g2, g3, g4⟩ := hB.at_
      obtain ⟨c0, ws0, _, g02, _, _⟩ := hB0.at_
      rw [e1] at g1 g2 g3 g4
      rw [← hh] at g02
      exact ⟨hlt, by have := hB.gr; rw [e1] at this; exact this, by have := hB.ex; rw [e1] at this; exact this, by have := hB.le; rw [e1] at this; exact this, by have := hB.cl; rw [e1] at this; exact this, hB.dark,
        c, ws, g1, repL_cut hnx.symm hold _ ws0 ws g02 g2, g3, g4⟩
    · simp only at hi hj e
      exact hR'.ok.inj i j (by rw [hold i (hmm i hi).1]; exact hi) (by rw [hold j (hmm j hj).1]; exact hj) e
  have hGo : Goes P E E2 := by
    rw [hE2]
    refine ⟨hgo.os, hgo.tape, hgo.output, hgo.size, hgo.keep, hgo.part, fun id hl => ?_, hgo.dark, by rw [hnx]; exact Nat.le_refl _, fun id hid => by rw [hh]⟩
    simp only at hl ⊢
    obtain ⟨hlt, hm1⟩ := hmm id hl
    exact .inl ⟨by rw [← hh]; exact hl, hm1, by rw [hh], by simp only [Env.lim, hm1, hh]⟩
  have hru2 : rep P E2 x u := by
    rw [hE2]
    exact (show repL P ⟨E'.w, E'.I, E'.m, h, nx⟩ [x] [u] from repL_pure (E := E') (E' := ⟨E'.w, E'.I, E'.m, h, nx⟩) (fun b hb => ⟨hb, rfl⟩) [x] [u] (by simp [AV.pureL, hp]) (by simp [repL, hru])) |> fun k => by simpa [repL] using k
  have hend : bodyPost P fn (fun e w' => ∃ v E', e = .returned v ∧ E'.w = w' ∧ E'.h = h ∧ E'.nx = nx ∧ E.Le E' ∧ Ok P E' ∧ Goes P E E' ∧ rep P E' x v) .ret a' E'.w :=
    ⟨hd', u, hres, u, E2, rfl, by rw [hE2], by rw [hE2], by rw [hE2], hLe, hOk, hGo, hru2⟩
  cases y with
  | normal => exact hend
  | ret => exact hend
  | exit i => exact hy.elim

abbrev CP (P : Program) (g : FuncId) (T : Nat) (v : AV) (al : List AV) (r : AV) : Prop :=
 ∀ (fr : Nat → AV) (h : Nat → Blk) (nx id : Nat), h id = ⟨T, [v], true, false, true⟩ → id < nx → InOk P ⟨fr, h, nx⟩ g (.ptr id 1 0 0 :: al) r ⟨fr, h, nx⟩
abbrev CPE (P : Program) (g : FuncId) (T : Nat) (v : AV) (al : List AV) (r : AV) : Prop :=
 ∀ (W : FuncId → Bool) (d : Option Tmp) (ops : Array Oper) (os : List Oper) (fr : Nat → AV) (h : Nat → Blk) (nx id : Nat) (K : St → Prop) (t : TokC ⟨d, ops, os, fr, h, nx, K⟩), h id = ⟨T, [v], true, false, true⟩ → id < nx →
  callW P W g (.ptr id 1 0 0 :: al) ⟨d, ops, os, fr, h, nx, K⟩ t = (Hid (callW P W g (.ptr id 1 0 0 :: al) ⟨d, ops, os, fr, h, nx, K⟩ .mk) .mk ∨ wpos P W ops os (St.put ⟨fr, h, nx⟩ d r) K)
theorem cpe {P : Program} {g : FuncId} {T : Nat} {v : AV} {al : List AV} {r : AV} (hc : CP P g T v al r) (hg : callable P g = true) : CPE P g T v al r := by
 intro W d ops os fr h nx id K t h1 h2
 cases t
 exact orHid fun hk => ⟨hg, r, ⟨fr, h, nx⟩, hc fr h nx id h1 h2, fun _ => ⟨rfl, rfl⟩, fun _ hp => by simp [AV.pureL, AV.pure] at hp, hk⟩
theorem postF_cell {P : Program} {fn : Func} {t u : Tmp} {T id : Nat} {x r s : AV} {st : St} {e : Ex} {h : Nat → Blk} {nx : Nat} (he : e = .ret ∨ e = .normal) (hr : fn.results.toList = [.cell t T, .tmp u]) (hok : okT P T = true) (hv : st.fr t = .ptr id 1 0 0) (hlv : (st.h id).lv = true) (hx : (st.h id).xs = [x])
  (hl : ldA P T x 0 = some r) (hw : st.fr u = s) (h1 : ∀ i, i < nx → st.h i = h i) (h2 : nx ≤ st.nx) : PostF P fn (.tup [r, s]) h nx e st :=
 ⟨by rcases he with rfl | rfl <;> trivial, by rw [hr]; simp [resV, resL, resA, hv, hw, hok, loadA, hlv, hx, hl], h1, h2⟩
theorem postF_cell1 {P : Program} {fn : Func} {t : Tmp} {T id : Nat} {x r : AV} {st : St} {e : Ex} {h : Nat → Blk} {nx : Nat} (he : e = .ret ∨ e = .normal) (hr : fn.results.toList = [.cell t T]) (hok : okT P T = true) (hv : st.fr t = .ptr id 1 0 0) (hlv : (st.h id).lv = true) (hx : (st.h id).xs = [x])
  (hl : ldA P T x 0 = some r) (h1 : ∀ i, i < nx → st.h i = h i) (h2 : nx ≤ st.nx) : PostF P fn r h nx e st :=
 ⟨by rcases he with rfl | rfl <;> trivial, by rw [hr]; simp [resV, resL, resA, hv, hok, loadA, hlv, hx, hl], h1, h2⟩
theorem x_nilCheck {P : Program} {W : FuncId → Bool} {ops : Array Oper} {os : List Oper} {fr : Nat → AV} {h : Nat → Blk} {nx : Nat} {K : St → Prop} {d t : Nat} {p : String} {af : Array Edge} {x : Operand} : wpos P W ops (⟨some d, .nilCheck x, t, p, af, none⟩ :: os) ⟨fr, h, nx⟩ K = match evA fr x with
  | .ptr id n i j => wpos P W ops os ⟨upd fr d (.ptr id n i j), h, nx⟩ K
  | .cptr t v j => wpos P W ops os ⟨upd fr d (.cptr t v j), h, nx⟩ K
  | _ => False := by
 rw [x_plain (by intros; simp)]; simp only [evalOp, ev_mk]; cases evA fr x <;> rfl
attribute [go_sem ↓] x_nilCheck
def parseR (s : List UInt8) : Option Rat := (parseQ s).map fun t => mkRat (sg t.1 t.2.1) t.2.2
theorem dval_ten {s : List UInt8} (h : ∀ c ∈ s, isDig c = true) : dval s < 10 ^ s.length := by
 have hl : ∀ (l : List UInt8), (∀ c ∈ l, isDig c = true) → dval l < 10 ^ l.length := by
  intro l
  induction l with
  | nil => intro _; simp [dval]
  | cons c l ih =>
   intro h
   have h1 := dval_append [c] l
   have h2 : dval [c] = c.toNat - 48 := by simp [dval]
   have h3 := h c (by simp)
   simp only [isDig, Bool.and_eq_true, decide_eq_true_eq] at h3
   have h4 := ih (fun d hd => h d (by simp [hd]))
   simp only [List.singleton_append] at h1
   rw [h1, h2, List.length_cons, Nat.pow_succ]
   have : (c.toNat - 48) * 10 ^ l.length ≤ 9 * 10 ^ l.length := Nat.mul_le_mul_right _ (by omega)
   omega
 exact hl s h
theorem ten_pow {k j n : Nat} (h1 : k ≤ 3 * j) (h2 : 10 * j < n) : 10 ^ k < 2 ^ n := by
 have h3 : 10 ^ k ≤ 10 ^ (3 * j) := Nat.pow_le_pow_right (by decide) h1
 have h4 : (10 ^ 3) ^ j ≤ (2 ^ 10) ^ j := Nat.pow_le_pow_left (by decide) j
 rw [← Nat.pow_mul, ← Nat.pow_mul] at h4
 exact Nat.lt_of_le_of_lt (Nat.le_trans h3 h4) (Nat.pow_lt_pow_right (by decide) h2)
theorem one_pow {n : Nat} (h : n ≠ 0) : 1 < 2 ^ n := Nat.one_lt_two_pow h
theorem ten_two {k : Nat} (h : k ≤ 200) : 10 ^ k < 2 ^ 700 := ten_pow (j := 67) (n := 700) (by omega) (by omega)
theorem parse_parts {s : List UInt8} {b : Bool} {m n : Nat} (h : parseQ s = some (b, m, n)) : n ≠ 0 ∧ (b = true → m ≠ 0) ∧ Nat.gcd m n = 1 ∧ m < 2 ^ 700 ∧ n < 2 ^ 700 := by
  unfold parseQ at h
  split at h
  · rename_i hc
    obtain ⟨h1, h2⟩ := hc
    obtain ⟨_, hl, hd⟩ := tok_len h1
    have hm := Nat.lt_trans (dval_ten hd) (ten_two hl)
    split at h
    · simp only [Option.some.injEq, Prod.mk.injEq] at h
      obtain ⟨rfl, rfl, rfl⟩ := h
      exact ⟨by decide, fun hb h0 => h2 ⟨hb, h0⟩, Nat.gcd_one_right _, hm, one_pow (n := 700) (by decide)⟩
    · split at h
      · rename_i i _ hc2
        obtain ⟨k1, k2, k3⟩ := hc2
        obtain ⟨_, hl2, hd2⟩ := tok_len k1
        simp only [Option.some.injEq, Prod.mk.injEq] at h
        obtain ⟨rfl, rfl, rfl⟩ := h
        exact ⟨by omega, fun hb h0 => h2 ⟨hb, h0⟩, k3, hm, Nat.lt_trans (dval_ten hd2) (ten_two hl2)⟩
      · cases h
  · cases h
theorem parse_qd {s : List UInt8} {t : Qd} (h : parseQ s = some t) : ∃ q, parseR s = some q ∧ qd q = t ∧ fits 700 q := by
  obtain ⟨b, m, n⟩ := t
  obtain ⟨h1, h2, h3, h4, h5⟩ := parse_parts h
  have e : qd (mkRat (sg b m) n) = (b, m, n) := by rw [qd_mkRat b m n h1, h3, Nat.div_one, Nat.div_one]; clear h4 h5 h; cases b <;> simp_all
  refine ⟨_, by simp only [parseR, h, Option.map_some], e, ?_⟩
  have e1 : (mkRat (sg b m) n).num.natAbs = m := congrArg (·.2.1) e
  have e2 : (mkRat (sg b m) n).den = n := congrArg (·.2.2) e
  exact ⟨by rw [e1]; exact h4, by rw [e2]; exact h5⟩
theorem parse_none {s : List UInt8} (h : parseQ s = none) : parseR s = none := by simp [parseR, h]
theorem parse_fits {s : List UInt8} {q : Rat} (h : parseR s = some q) : fits 700 q := by
 cases hq : parseQ s with
 | none => rw [parse_none hq] at h; cases h
 | some t => obtain ⟨q', h1, _, h3⟩ := parse_qd hq; rw [h1] at h; cases h; exact h3
def optI : Option Rat → AV
 | some q => .tup [rI 700 q, .bool true]
 | none => .tup [.agg [.bool false, .nil, .nil], .bool false]
def optS : Option Rat → AV
 | some q => .tup [rS 700 q, .bool true]
 | none => .tup [.agg [.bool false, .nil, .nil], .bool false]
def optLI : Option (List Rat) → AV
 | some q => .tup [lI 700 q, .bool true]
 | none => .tup [.nil, .bool false]
def optLS : Option (List Rat) → AV
 | some q => .tup [lS 700 q, .bool true]
 | none => .tup [.nil, .bool false]
@[simp] theorem optI_pure (o : Option Rat) : (optI o).pure = true := by cases o <;> simp [optI, AV.pure, AV.pureL]
@[simp] theorem optS_pure (o : Option Rat) : (optS o).pure = true := by cases o <;> simp [optS, AV.pure, AV.pureL]
@[simp] theorem optLI_pure (o : Option (List Rat)) : (optLI o).pure = true := by cases o <;> simp [optLI, AV.pure, AV.pureL]
theorem optI_s (q : Rat) : optI (some q) = .tup [rI 700 q, .bool true] := rfl
theorem optI_n : optI none = .tup [.agg [.bool false, .nil, .nil], .bool false] := rfl
theorem optS_s (q : Rat) : optS (some q) = .tup [rS 700 q, .bool true] := rfl
theorem optS_n : optS none = .tup [.agg [.bool false, .nil, .nil], .bool false] := rfl
theorem optLI_s (q : List Rat) : optLI (some q) = .tup [lI 700 q, .bool true] := rfl
theorem optLI_n : optLI none = .tup [.nil, .bool false] := rfl
theorem optLS_s (q : List Rat) : optLS (some q) = .tup [lS 700 q, .bool true] := rfl
theorem optLS_n : optLS none = .tup [.nil, .bool false] := rfl
attribute [go_sem] optI_s optI_n optS_s optS_n optLI_s optLI_n optLS_s optLS_n List.drop_succ_cons
theorem w_readRat {s : List UInt8} (hs : s.length < 9223372036854775808) : CW Tryz.prog 45 [.str s] (optI (parseR s)) := by
 refine cw (by kernel_rfl) (by simp [AV.pure, AV.pureL, natA_pure, natI_pure, natS_pure]) (by simp [AV.pure, AV.pureL, natA_pure, natI_pure, natS_pure]) ?_
 have h := i_readRat s hs
 unfold readRatV at h
 cases hq : parseQ s with
 | none => rw [hq] at h; rw [parse_none hq]; exact h
 | some t =>
  obtain ⟨q, h1, h2, h3⟩ := parse_qd hq
  rw [hq] at h
  rw [h1, optI_s, rI_eq h3, h2]; exact h
attribute [go_sem] w_readRat
theorem w_sParse {s : List UInt8} (hs : s.length ≤ 1000000) : CW Tryz.prog 37 [.str s] (optS (parseR s)) := by
 refine cw (by kernel_rfl) (by simp [AV.pure, AV.pureL, natA_pure, natI_pure, natS_pure]) (by simp [AV.pure, AV.pureL, natA_pure, natI_pure, natS_pure]) ?_
 have h := s_Parse s hs
 unfold parseV at h
 cases hq : parseQ s with
 | none => rw [hq] at h; rw [parse_none hq]; exact h
 | some t =>
  obtain ⟨q, h1, h2, h3⟩ := parse_qd hq
  rw [hq] at h
  rw [h1, optS_s, rS_eq h3, h2]; exact h
attribute [go_sem] w_sParse
theorem w_sIn {n a b : Int} : CW Tryz.prog 20 [.int .i64 n, .int .i64 a, .int .i64 b] (.bool (decide (a ≤ n ∧ n ≤ b))) := by
  refine cw (by kernel_rfl) (by simp [AV.pure, AV.pureL, natA_pure, natI_pure, natS_pure]) (by simp [AV.pure, AV.pureL, natA_pure, natI_pure, natS_pure]) ?_
  by_cases h1 : a ≤ n
  · by_cases h2 : n ≤ b
    all_goals
      (refine callOk_of_wpc (W := fun _ => false) false hm' Tryz.func20 rfl (by kernel_rfl) (Nat.le_of_ble_eq_true rfl) (go_start ?_); generalize hQ : Post Tryz.prog Tryz.f20 _ _ _ _ _ = Q; simp only [stIn, matL, matA, st00])
      simp (disch := omega) only [go_sem, ↓k_cond, ↓x_idx, ↓k_block, Nat.reduceEqDiff, Nat.reduceBEq, ↓reduceIte, reduceCtorEq]
      rw [← hQ]
      exact post_one (.inl rfl) rfl (by simp [upd_app]; omega) rfl
  · (refine callOk_of_wpc (W := fun _ => false) false hm' Tryz.func20 rfl (by kernel_rfl) (Nat.le_of_ble_eq_true rfl) (go_start ?_); generalize hQ : Post Tryz.prog Tryz.f20 _ _ _ _ _ = Q; simp only [stIn, matL, matA, st00])
    simp (disch := omega) only [go_sem, ↓k_cond, ↓x_idx, ↓k_block, Nat.reduceEqDiff, Nat.reduceBEq, ↓reduceIte, reduceCtorEq]
    rw [← hQ]
    exact post_one (.inl rfl) rfl (by simp [upd_app]; omega) rfl
attribute [go_sem] w_sIn
theorem w_in {n a b : Int} : CW Tryz.prog 24 [.int .i64 n, .int .i64 a, .int .i64 b] (.bool (decide (a ≤ n ∧ n ≤ b))) := by
  refine cw (by kernel_rfl) (by simp [AV.pure, AV.pureL, natA_pure, natI_pure, natS_pure]) (by simp [AV.pure, AV.pureL, natA_pure, natI_pure, natS_pure]) ?_
  by_cases h1 : a ≤ n
  · by_cases h2 : n ≤ b
    all_goals
      (refine callOk_of_wpc (W := fun _ => false) false hm' Tryz.func24 rfl (by kernel_rfl) (Nat.le_of_ble_eq_true rfl) (go_start ?_); generalize hQ : Post Tryz.prog Tryz.f24 _ _ _ _ _ = Q; simp only [stIn, matL, matA, st00])
      simp (disch := omega) only [go_sem, ↓k_cond, ↓x_idx, ↓k_block, Nat.reduceEqDiff, Nat.reduceBEq, ↓reduceIte, reduceCtorEq]
      rw [← hQ]
      exact post_one (.inl rfl) rfl (by simp [upd_app]; omega) rfl
  · (refine callOk_of_wpc (W := fun _ => false) false hm' Tryz.func24 rfl (by kernel_rfl) (Nat.le_of_ble_eq_true rfl) (go_start ?_); generalize hQ : Post Tryz.prog Tryz.f24 _ _ _ _ _ = Q; simp only [stIn, matL, matA, st00])
    simp (disch := omega) only [go_sem, ↓k_cond, ↓x_idx, ↓k_block, Nat.reduceEqDiff, Nat.reduceBEq, ↓reduceIte, reduceCtorEq]
    rw [← hQ]
    exact post_one (.inl rfl) rfl (by simp [upd_app]; omega) rfl
attribute [go_sem] w_in
theorem o_lModel : okT Tryz.prog 23 = true := by kernel_rfl
theorem g_lModel : aggT Tryz.prog 23 = true := by kernel_rfl
theorem s_lModel : szT Tryz.prog 23 = 5 := by kernel_rfl
theorem z_lModel : zeroA Tryz.prog 23 = some (.agg [.int .i64 0, .str [], .str [], .str [], .str []]) := by kernel_rfl
theorem fs_lModel : infosT Tryz.prog 23 = true := by kernel_rfl
theorem f_lModel0 : fieldOff Tryz.prog 23 0 = some (0, 2) := by kernel_rfl
theorem f_lModel1 : fieldOff Tryz.prog 23 1 = some (1, 9) := by kernel_rfl
theorem f_lModel2 : fieldOff Tryz.prog 23 2 = some (2, 9) := by kernel_rfl
theorem f_lModel3 : fieldOff Tryz.prog 23 3 = some (3, 9) := by kernel_rfl
theorem f_lModel4 : fieldOff Tryz.prog 23 4 = some (4, 9) := by kernel_rfl
theorem el_lModel {a0 a1 a2 a3 a4 : AV} : AV.el Tryz.prog 23 (.agg [a0, a1, a2, a3, a4]) = (a0.one && (a1.one && (a2.one && (a3.one && (a4.one))))) := by simp [AV.el, s_lModel, AV.cells]
attribute [go_sem] o_lModel g_lModel s_lModel z_lModel fs_lModel f_lModel0 f_lModel1 f_lModel2 f_lModel3 f_lModel4 el_lModel
theorem o_iModel : okT Tryz.prog 28 = true := by kernel_rfl
theorem g_iModel : aggT Tryz.prog 28 = true := by kernel_rfl
theorem s_iModel : szT Tryz.prog 28 = 5 := by kernel_rfl
theorem z_iModel : zeroA Tryz.prog 28 = some (.agg [.int .i64 0, .str [], .str [], .str [], .str []]) := by kernel_rfl
theorem fs_iModel : infosT Tryz.prog 28 = true := by kernel_rfl
theorem f_iModel0 : fieldOff Tryz.prog 28 0 = some (0, 2) := by kernel_rfl
theorem f_iModel1 : fieldOff Tryz.prog 28 1 = some (1, 9) := by kernel_rfl
theorem f_iModel2 : fieldOff Tryz.prog 28 2 = some (2, 9) := by kernel_rfl
theorem f_iModel3 : fieldOff Tryz.prog 28 3 = some (3, 9) := by kernel_rfl
theorem f_iModel4 : fieldOff Tryz.prog 28 4 = some (4, 9) := by kernel_rfl
theorem el_iModel {a0 a1 a2 a3 a4 : AV} : AV.el Tryz.prog 28 (.agg [a0, a1, a2, a3, a4]) = (a0.one && (a1.one && (a2.one && (a3.one && (a4.one))))) := by simp [AV.el, s_iModel, AV.cells]
theorem ld_iModel {a0 a1 a2 a3 a4 : AV} : ldA Tryz.prog 28 (.agg [a0, a1, a2, a3, a4]) 0 = some (.agg [a0, a1, a2, a3, a4]) := by simp [ldA, partA, g_iModel, s_iModel, AV.cells]
attribute [go_sem] o_iModel g_iModel s_iModel z_iModel fs_iModel f_iModel0 f_iModel1 f_iModel2 f_iModel3 f_iModel4 el_iModel
theorem o_imodel : okT Tryz.prog 55 = true := by kernel_rfl
theorem g_imodel : aggT Tryz.prog 55 = true := by kernel_rfl
theorem s_imodel : szT Tryz.prog 55 = 13 := by kernel_rfl
theorem z_imodel : zeroA Tryz.prog 55 = some (.agg [.int .i64 0, .bool false, .nil, .nil, .bool false, .nil, .nil, .bool false, .nil, .nil, .bool false, .nil, .nil]) := by kernel_rfl
theorem fs_imodel : infosT Tryz.prog 55 = true := by kernel_rfl
theorem f_imodel0 : fieldOff Tryz.prog 55 0 = some (0, 3) := by kernel_rfl
theorem f_imodel1 : fieldOff Tryz.prog 55 1 = some (1, 53) := by kernel_rfl
theorem f_imodel2 : fieldOff Tryz.prog 55 2 = some (4, 53) := by kernel_rfl
theorem f_imodel3 : fieldOff Tryz.prog 55 3 = some (7, 53) := by kernel_rfl
theorem f_imodel4 : fieldOff Tryz.prog 55 4 = some (10, 53) := by kernel_rfl
theorem el_imodel {a0 a1 a2 a3 a4 a5 a6 a7 a8 a9 a10 a11 a12 : AV} : AV.el Tryz.prog 55 (.agg [a0, a1, a2, a3, a4, a5, a6, a7, a8, a9, a10, a11, a12]) = (a0.one && (a1.one && (a2.one && (a3.one && (a4.one && (a5.one && (a6.one && (a7.one && (a8.one && (a9.one && (a10.one && (a11.one && (a12.one))))))))))))) := by simp [AV.el, s_imodel, AV.cells]
theorem ld_imodel {a0 a1 a2 a3 a4 a5 a6 a7 a8 a9 a10 a11 a12 : AV} : ldA Tryz.prog 55 (.agg [a0, a1, a2, a3, a4, a5, a6, a7, a8, a9, a10, a11, a12]) 0 = some (.agg [a0, a1, a2, a3, a4, a5, a6, a7, a8, a9, a10, a11, a12]) := by simp [ldA, partA, g_imodel, s_imodel, AV.cells]
attribute [go_sem] o_imodel g_imodel s_imodel z_imodel fs_imodel f_imodel0 f_imodel1 f_imodel2 f_imodel3 f_imodel4 el_imodel
theorem o_sMod : okT Tryz.prog 41 = true := by kernel_rfl
theorem g_sMod : aggT Tryz.prog 41 = true := by kernel_rfl
theorem s_sMod : szT Tryz.prog 41 = 16 := by kernel_rfl
theorem z_sMod : zeroA Tryz.prog 41 = some (.agg [.int .i64 0, .bool false, .nil, .nil, .bool false, .nil, .nil, .bool false, .nil, .nil, .bool false, .nil, .nil, .bool false, .nil, .nil]) := by kernel_rfl
theorem fs_sMod : infosT Tryz.prog 41 = true := by kernel_rfl
theorem f_sMod0 : fieldOff Tryz.prog 41 0 = some (0, 3) := by kernel_rfl
theorem f_sMod1 : fieldOff Tryz.prog 41 1 = some (1, 39) := by kernel_rfl
theorem f_sMod2 : fieldOff Tryz.prog 41 2 = some (4, 39) := by kernel_rfl
theorem f_sMod3 : fieldOff Tryz.prog 41 3 = some (7, 39) := by kernel_rfl
theorem f_sMod4 : fieldOff Tryz.prog 41 4 = some (10, 39) := by kernel_rfl
theorem f_sMod5 : fieldOff Tryz.prog 41 5 = some (13, 39) := by kernel_rfl
theorem el_sMod {a0 a1 a2 a3 a4 a5 a6 a7 a8 a9 a10 a11 a12 a13 a14 a15 : AV} : AV.el Tryz.prog 41 (.agg [a0, a1, a2, a3, a4, a5, a6, a7, a8, a9, a10, a11, a12, a13, a14, a15]) = (a0.one && (a1.one && (a2.one && (a3.one && (a4.one && (a5.one && (a6.one && (a7.one && (a8.one && (a9.one && (a10.one && (a11.one && (a12.one && (a13.one && (a14.one && (a15.one)))))))))))))))) := by simp [AV.el, s_sMod, AV.cells]
theorem ld_sMod {a0 a1 a2 a3 a4 a5 a6 a7 a8 a9 a10 a11 a12 a13 a14 a15 : AV} : ldA Tryz.prog 41 (.agg [a0, a1, a2, a3, a4, a5, a6, a7, a8, a9, a10, a11, a12, a13, a14, a15]) 0 = some (.agg [a0, a1, a2, a3, a4, a5, a6, a7, a8, a9, a10, a11, a12, a13, a14, a15]) := by simp [ldA, partA, g_sMod, s_sMod, AV.cells]
attribute [go_sem] o_sMod g_sMod s_sMod z_sMod fs_sMod f_sMod0 f_sMod1 f_sMod2 f_sMod3 f_sMod4 f_sMod5 el_sMod
theorem s_int : szT Tryz.prog 3 = 1 := by kernel_rfl
theorem g_int : aggT Tryz.prog 3 = false := by kernel_rfl
theorem el_int {n : Int} : AV.el Tryz.prog 3 (.int .i64 n) = true := by simp [AV.el, s_int, AV.cells, AV.one]
attribute [go_sem] s_int g_int el_int
structure Mdl where
 room : Int
 come : List UInt8
 serve : List UInt8
 reward : List UInt8
 cost : List UInt8
abbrev Mdl.av (m : Mdl) : AV := .agg [.int .i64 m.room, .str m.come, .str m.serve, .str m.reward, .str m.cost]
def Mdl.small (m : Mdl) : Prop := m.come.length ≤ 1000000 ∧ m.serve.length ≤ 1000000 ∧ m.reward.length ≤ 1000000 ∧ m.cost.length ≤ 1000000
structure MR where
 room : Nat
 come : Rat
 serve : Rat
 reward : Rat
 cost : Rat
def modOk (m : Mdl) (c s r k : Rat) : Prop := 1 ≤ m.room ∧ m.room ≤ 8 ∧ 0 < c ∧ 0 < s ∧ 0 ≤ r ∧ 0 ≤ k ∧ c + s ≤ 1
instance (m : Mdl) (c s r k : Rat) : Decidable (modOk m c s r k) := by unfold modOk; infer_instance
def modR (m : Mdl) : Option MR :=
 match parseR m.come, parseR m.serve, parseR m.reward, parseR m.cost with
 | some c, some s, some r, some k => if modOk m c s r k then some ⟨m.room.toNat, c, s, r, k⟩ else none
 | _, _, _, _ => none
theorem modR_fits {m : Mdl} {x : MR} (h : modR m = some x) : fits 700 x.come ∧ fits 700 x.serve ∧ fits 700 x.reward ∧ fits 700 x.cost ∧ 1 ≤ x.room ∧ x.room ≤ 8 ∧ m.room = x.room ∧ 0 < x.come ∧ 0 < x.serve ∧ 0 ≤ x.reward ∧ 0 ≤ x.cost ∧ x.come + x.serve ≤ 1 := by
  unfold modR at h
  split at h
  · rename_i c s r k hc hs hr hk
    split at h
    · rename_i ho
      cases h
      obtain ⟨o1, o2, o3⟩ := ho
      exact ⟨parse_fits hc, parse_fits hs, parse_fits hr, parse_fits hk, by simp only; omega, by simp only; omega, by simp only; omega, o3⟩
    · cases h
  · cases h
abbrev MR.sv (x : MR) : AV := .agg [.int .i64 x.room, .bool (decide (x.come.num < 0)), tS 700 x.come, dS 700 x.come, .bool (decide (x.serve.num < 0)), tS 700 x.serve, dS 700 x.serve,
 .bool (decide ((1 - x.come - x.serve).num < 0)), tS 1466 (1 - x.come - x.serve), dS 1466 (1 - x.come - x.serve), .bool (decide (x.reward.num < 0)), tS 700 x.reward, dS 700 x.reward, .bool (decide (x.cost.num < 0)), tS 700 x.cost, dS 700 x.cost]
abbrev zeroMS : AV := .agg [.int .i64 0, .bool false, .nil, .nil, .bool false, .nil, .nil, .bool false, .nil, .nil, .bool false, .nil, .nil, .bool false, .nil, .nil]
def modS : Option MR → AV
 | some x => .tup [x.sv, .bool true]
 | none => .tup [zeroMS, .bool false]
theorem modS_s (x : MR) : modS (some x) = .tup [x.sv, .bool true] := rfl
theorem modS_n : modS none = .tup [zeroMS, .bool false] := rfl
@[simp] theorem modS_pure (o : Option MR) : (modS o).pure = true := by cases o <;> simp [modS, AV.pure, AV.pureL]
attribute [go_sem] modS_s modS_n
theorem gen_sParse {s : List UInt8} (hs : s.length ≤ 1000000) : ∃ x y z, CW Tryz.prog 37 [.str s] (.tup [.agg [x, y, z], .bool (parseR s).isSome]) ∧ x.one = true ∧ y.one = true ∧ z.one = true := by
 have h := w_sParse hs
 cases hq : parseR s with
 | none => rw [hq] at h; exact ⟨_, _, _, h, rfl, rfl, rfl⟩
 | some q => rw [hq] at h; exact ⟨_, _, _, h, rfl, by simp, by simp⟩
set_option maxHeartbeats 8000000 in
theorem s_l09Parse (m : Mdl) (hm0 : m.small) : CP Tryz.prog 19 28 m.av [] (modS (modR m)) := by
  obtain ⟨l1, l2, l3, l4⟩ := hm0
  obtain ⟨x1, y1, z1, g1, a1, b1, c1⟩ := gen_sParse l1
  obtain ⟨x2, y2, z2, g2, a2, b2, c2⟩ := gen_sParse l2
  obtain ⟨x3, y3, z3, g3, a3, b3, c3⟩ := gen_sParse l3
  obtain ⟨x4, y4, z4, g4, a4, b4, c4⟩ := gen_sParse l4
  have hroom : ∀ c s r k, parseR m.come = some c → parseR m.serve = some s → parseR m.reward = some r → parseR m.cost = some k → ¬ modOk m c s r k → modR m = none := by
    intro c s r k e1 e2 e3 e4 h
    simp only [modR, e1, e2, e3, e4, if_neg h]
  have hnone : (parseR m.come = none ∨ parseR m.serve = none ∨ parseR m.reward = none ∨ parseR m.cost = none) → modR m = none := by
    intro h
    simp only [modR]
    split
    · rename_i e1 e2 e3 e4; simp [e1, e2, e3, e4] at h
    · rfl
  by_cases hr : ¬ (1 ≤ m.room ∧ m.room ≤ 8)
  · have hn : modR m = none := by
      unfold modR
      split
      · rw [if_neg (fun h => hr ⟨h.1, h.2.1⟩)]
      · rfl
    rw [hn]
    have hr' : decide (1 ≤ m.room ∧ m.room ≤ 8) = false := by simpa using hr
    (intro fr0 h nx id hm hid; refine inOkF_of_wpc (W := ⟨fun _ => false, fun r => if r = 7 then some [(0, 5), (1, 5), (2, 5), (3, 5), (4, 5)] else none⟩) hm' Tryz.func19 rfl (by kernel_rfl) (Nat.le_of_ble_eq_true rfl) (by simp [AV.pure, AV.pureL, natA_pure, natI_pure, natS_pure]) (go_start ?_); generalize hQ : PostF Tryz.prog Tryz.f19 _ _ _ = Q; clear fr0)
    simp (disch := omega) only [go_sem, ↓k_cond, ↓x_idx, ↓k_block, Nat.reduceEqDiff, Nat.reduceBEq, ↓reduceIte, reduceCtorEq, ↓k_appE, hm, g1, g2, g3, g4, a1, b1, c1, a2, b2, c2, a3, b3, c3, a4, b4, c4, Option.isSome_none, Option.isSome_some, hr']
    (repeat (with_reducible refine Or.inr ?_))
    rw [← hQ]
    exact postF_cell (id := nx) (x := zeroMS) (.inl rfl) rfl o_sMod (by simp [upd_app] <;> omega) (by simp [upd_app]) (by simp [upd_app]) ld_sMod (by simp [upd_app] <;> omega) (by intro i hi; simp only [upd_app]; repeat rw [if_neg (by omega)]) (by simp <;> omega)
  have hr' : decide (1 ≤ m.room ∧ m.room ≤ 8) = true := by simpa using hr
  cases e1 : parseR m.come with
  | none =>
    rw [e1] at g1
    rw [hnone (.inl e1)]
    (intro fr0 h nx id hm hid; refine inOkF_of_wpc (W := ⟨fun _ => false, fun r => if r = 7 then some [(0, 5), (1, 5), (2, 5), (3, 5), (4, 5)] else none⟩) hm' Tryz.func19 rfl (by kernel_rfl) (Nat.le_of_ble_eq_true rfl) (by simp [AV.pure, AV.pureL, natA_pure, natI_pure, natS_pure]) (go_start ?_); generalize hQ : PostF Tryz.prog Tryz.f19 _ _ _ = Q; clear fr0)
    simp (disch := omega) only [go_sem, ↓k_cond, ↓x_idx, ↓k_block, Nat.reduceEqDiff, Nat.reduceBEq, ↓reduceIte, reduceCtorEq, ↓k_appE, hm, g1, g2, g3, g4, a1, b1, c1, a2, b2, c2, a3, b3, c3, a4, b4, c4, Option.isSome_none, Option.isSome_some, hr']
    (repeat (with_reducible refine Or.inr ?_))
    rw [← hQ]
    exact postF_cell (id := nx) (x := zeroMS) (.inl rfl) rfl o_sMod (by simp [upd_app] <;> omega) (by simp [upd_app]) (by simp [upd_app]) ld_sMod (by simp [upd_app] <;> omega) (by intro i hi; simp only [upd_app]; repeat rw [if_neg (by omega)]) (by simp <;> omega)
  | some c =>
  cases e2 : parseR m.serve with
  | none =>
    rw [e1] at g1; rw [e2] at g2
    rw [hnone (.inr (.inl e2))]
    (intro fr0 h nx id hm hid; refine inOkF_of_wpc (W := ⟨fun _ => false, fun r => if r = 7 then some [(0, 5), (1, 5), (2, 5), (3, 5), (4, 5)] else none⟩) hm' Tryz.func19 rfl (by kernel_rfl) (Nat.le_of_ble_eq_true rfl) (by simp [AV.pure, AV.pureL, natA_pure, natI_pure, natS_pure]) (go_start ?_); generalize hQ : PostF Tryz.prog Tryz.f19 _ _ _ = Q; clear fr0)
    simp (disch := omega) only [go_sem, ↓k_cond, ↓x_idx, ↓k_block, Nat.reduceEqDiff, Nat.reduceBEq, ↓reduceIte, reduceCtorEq, ↓k_appE, hm, g1, g2, g3, g4, a1, b1, c1, a2, b2, c2, a3, b3, c3, a4, b4, c4, Option.isSome_none, Option.isSome_some, hr']
    (repeat (with_reducible refine Or.inr ?_))
    rw [← hQ]
    exact postF_cell (id := nx) (x := zeroMS) (.inl rfl) rfl o_sMod (by simp [upd_app] <;> omega) (by simp [upd_app]) (by simp [upd_app]) ld_sMod (by simp [upd_app] <;> omega) (by intro i hi; simp only [upd_app]; repeat rw [if_neg (by omega)]) (by simp <;> omega)
  | some s =>
  cases e3 : parseR m.reward with
  | none =>
    rw [e1] at g1; rw [e2] at g2; rw [e3] at g3
    rw [hnone (.inr (.inr (.inl e3)))]
    (intro fr0 h nx id hm hid; refine inOkF_of_wpc (W := ⟨fun _ => false, fun r => if r = 7 then some [(0, 5), (1, 5), (2, 5), (3, 5), (4, 5)] else none⟩) hm' Tryz.func19 rfl (by kernel_rfl) (Nat.le_of_ble_eq_true rfl) (by simp [AV.pure, AV.pureL, natA_pure, natI_pure, natS_pure]) (go_start ?_); generalize hQ : PostF Tryz.prog Tryz.f19 _ _ _ = Q; clear fr0)
    simp (disch := omega) only [go_sem, ↓k_cond, ↓x_idx, ↓k_block, Nat.reduceEqDiff, Nat.reduceBEq, ↓reduceIte, reduceCtorEq, ↓k_appE, hm, g1, g2, g3, g4, a1, b1, c1, a2, b2, c2, a3, b3, c3, a4, b4, c4, Option.isSome_none, Option.isSome_some, hr']
    (repeat (with_reducible refine Or.inr ?_))
    rw [← hQ]
    exact postF_cell (id := nx) (x := zeroMS) (.inl rfl) rfl o_sMod (by simp [upd_app] <;> omega) (by simp [upd_app]) (by simp [upd_app]) ld_sMod (by simp [upd_app] <;> omega) (by intro i hi; simp only [upd_app]; repeat rw [if_neg (by omega)]) (by simp <;> omega)
  | some r =>
  cases e4 : parseR m.cost with
  | none =>
    rw [e1] at g1; rw [e2] at g2; rw [e3] at g3; rw [e4] at g4
    rw [hnone (.inr (.inr (.inr e4)))]
    (intro fr0 h nx id hm hid; refine inOkF_of_wpc (W := ⟨fun _ => false, fun r => if r = 7 then some [(0, 5), (1, 5), (2, 5), (3, 5), (4, 5)] else none⟩) hm' Tryz.func19 rfl (by kernel_rfl) (Nat.le_of_ble_eq_true rfl) (by simp [AV.pure, AV.pureL, natA_pure, natI_pure, natS_pure]) (go_start ?_); generalize hQ : PostF Tryz.prog Tryz.f19 _ _ _ = Q; clear fr0)
    simp (disch := omega) only [go_sem, ↓k_cond, ↓x_idx, ↓k_block, Nat.reduceEqDiff, Nat.reduceBEq, ↓reduceIte, reduceCtorEq, ↓k_appE, hm, g1, g2, g3, g4, a1, b1, c1, a2, b2, c2, a3, b3, c3, a4, b4, c4, Option.isSome_none, Option.isSome_some, hr']
    (repeat (with_reducible refine Or.inr ?_))
    rw [← hQ]
    exact postF_cell (id := nx) (x := zeroMS) (.inl rfl) rfl o_sMod (by simp [upd_app] <;> omega) (by simp [upd_app]) (by simp [upd_app]) ld_sMod (by simp [upd_app] <;> omega) (by intro i hi; simp only [upd_app]; repeat rw [if_neg (by omega)]) (by simp <;> omega)
  | some k =>
  have p1 := w_sParse l1
  have p2 := w_sParse l2
  have p3 := w_sParse l3
  have p4 := w_sParse l4
  rw [e1] at p1; rw [e2] at p2; rw [e3] at p3; rw [e4] at p4
  have hbad := hroom c s r k e1 e2 e3 e4
  clear g1 a1 b1 c1 g2 a2 b2 c2 g3 a3 b3 c3 g4 a4 b4 c4 hnone hroom x1 y1 z1 x2 y2 z2 x3 y3 z3 x4 y4 z4
  by_cases n1 : r < 0
  · rw [hbad (fun h => absurd n1 (Rat.not_lt.2 h.2.2.2.2.1))]
    have d1 : decide (r < 0) = true := by simpa using n1
    (intro fr0 h nx id hm hid; refine inOkF_of_wpc (W := ⟨fun _ => false, fun r => if r = 7 then some [(0, 5), (1, 5), (2, 5), (3, 5), (4, 5)] else none⟩) hm' Tryz.func19 rfl (by kernel_rfl) (Nat.le_of_ble_eq_true rfl) (by simp [AV.pure, AV.pureL, natA_pure, natI_pure, natS_pure]) (go_start ?_); generalize hQ : PostF Tryz.prog Tryz.f19 _ _ _ = Q; clear fr0)
    simp (disch := omega) only [go_sem, ↓k_cond, ↓x_idx, ↓k_block, Nat.reduceEqDiff, Nat.reduceBEq, ↓reduceIte, reduceCtorEq, ↓k_appE, hm, p1, p2, p3, p4, hr', d1]
    (repeat (with_reducible refine Or.inr ?_))
    rw [← hQ]
    exact postF_cell (id := nx) (x := zeroMS) (.inl rfl) rfl o_sMod (by simp [upd_app] <;> omega) (by simp [upd_app]) (by simp [upd_app]) ld_sMod (by simp [upd_app] <;> omega) (by intro i hi; simp only [upd_app]; repeat rw [if_neg (by omega)]) (by simp <;> omega)
  have d1 : decide (r < 0) = false := by simpa using n1
  by_cases n2 : k < 0
  · rw [hbad (fun h => absurd n2 (Rat.not_lt.2 h.2.2.2.2.2.1))]
    have d2 : decide (k < 0) = true := by simpa using n2
    (intro fr0 h nx id hm hid; refine inOkF_of_wpc (W := ⟨fun _ => false, fun r => if r = 7 then some [(0, 5), (1, 5), (2, 5), (3, 5), (4, 5)] else none⟩) hm' Tryz.func19 rfl (by kernel_rfl) (Nat.le_of_ble_eq_true rfl) (by simp [AV.pure, AV.pureL, natA_pure, natI_pure, natS_pure]) (go_start ?_); generalize hQ : PostF Tryz.prog Tryz.f19 _ _ _ = Q; clear fr0)
    simp (disch := omega) only [go_sem, ↓k_cond, ↓x_idx, ↓k_block, Nat.reduceEqDiff, Nat.reduceBEq, ↓reduceIte, reduceCtorEq, ↓k_appE, hm, p1, p2, p3, p4, hr', d1, d2]
    (repeat (with_reducible refine Or.inr ?_))
    rw [← hQ]
    exact postF_cell (id := nx) (x := zeroMS) (.inl rfl) rfl o_sMod (by simp [upd_app] <;> omega) (by simp [upd_app]) (by simp [upd_app]) ld_sMod (by simp [upd_app] <;> omega) (by intro i hi; simp only [upd_app]; repeat rw [if_neg (by omega)]) (by simp <;> omega)
  have d2 : decide (k < 0) = false := by simpa using n2
  by_cases n3 : c = 0
  · rw [hbad (fun h => absurd h.2.2.1 (by rw [n3]; exact Rat.lt_irrefl))]
    have d3 : decide (c = 0) = true := by simpa using n3
    (intro fr0 h nx id hm hid; refine inOkF_of_wpc (W := ⟨fun _ => false, fun r => if r = 7 then some [(0, 5), (1, 5), (2, 5), (3, 5), (4, 5)] else none⟩) hm' Tryz.func19 rfl (by kernel_rfl) (Nat.le_of_ble_eq_true rfl) (by simp [AV.pure, AV.pureL, natA_pure, natI_pure, natS_pure]) (go_start ?_); generalize hQ : PostF Tryz.prog Tryz.f19 _ _ _ = Q; clear fr0)
    simp (disch := omega) only [go_sem, ↓k_cond, ↓x_idx, ↓k_block, Nat.reduceEqDiff, Nat.reduceBEq, ↓reduceIte, reduceCtorEq, ↓k_appE, hm, p1, p2, p3, p4, hr', d1, d2, d3]
    (repeat (with_reducible refine Or.inr ?_))
    rw [← hQ]
    exact postF_cell (id := nx) (x := zeroMS) (.inl rfl) rfl o_sMod (by simp [upd_app] <;> omega) (by simp [upd_app]) (by simp [upd_app]) ld_sMod (by simp [upd_app] <;> omega) (by intro i hi; simp only [upd_app]; repeat rw [if_neg (by omega)]) (by simp <;> omega)
  have d3 : decide (c = 0) = false := by simpa using n3
  by_cases n4 : c < 0
  · rw [hbad (fun h => absurd n4 (Rat.not_lt.2 (Rat.le_of_lt h.2.2.1)))]
    have d4 : decide (c < 0) = true := by simpa using n4
    (intro fr0 h nx id hm hid; refine inOkF_of_wpc (W := ⟨fun _ => false, fun r => if r = 7 then some [(0, 5), (1, 5), (2, 5), (3, 5), (4, 5)] else none⟩) hm' Tryz.func19 rfl (by kernel_rfl) (Nat.le_of_ble_eq_true rfl) (by simp [AV.pure, AV.pureL, natA_pure, natI_pure, natS_pure]) (go_start ?_); generalize hQ : PostF Tryz.prog Tryz.f19 _ _ _ = Q; clear fr0)
    simp (disch := omega) only [go_sem, ↓k_cond, ↓x_idx, ↓k_block, Nat.reduceEqDiff, Nat.reduceBEq, ↓reduceIte, reduceCtorEq, ↓k_appE, hm, p1, p2, p3, p4, hr', d1, d2, d3, d4]
    (repeat (with_reducible refine Or.inr ?_))
    rw [← hQ]
    exact postF_cell (id := nx) (x := zeroMS) (.inl rfl) rfl o_sMod (by simp [upd_app] <;> omega) (by simp [upd_app]) (by simp [upd_app]) ld_sMod (by simp [upd_app] <;> omega) (by intro i hi; simp only [upd_app]; repeat rw [if_neg (by omega)]) (by simp <;> omega)
  have d4 : decide (c < 0) = false := by simpa using n4
  by_cases n5 : s = 0
  · rw [hbad (fun h => absurd h.2.2.2.1 (by rw [n5]; exact Rat.lt_irrefl))]
    have d5 : decide (s = 0) = true := by simpa using n5
    (intro fr0 h nx id hm hid; refine inOkF_of_wpc (W := ⟨fun _ => false, fun r => if r = 7 then some [(0, 5), (1, 5), (2, 5), (3, 5), (4, 5)] else none⟩) hm' Tryz.func19 rfl (by kernel_rfl) (Nat.le_of_ble_eq_true rfl) (by simp [AV.pure, AV.pureL, natA_pure, natI_pure, natS_pure]) (go_start ?_); generalize hQ : PostF Tryz.prog Tryz.f19 _ _ _ = Q; clear fr0)
    simp (disch := omega) only [go_sem, ↓k_cond, ↓x_idx, ↓k_block, Nat.reduceEqDiff, Nat.reduceBEq, ↓reduceIte, reduceCtorEq, ↓k_appE, hm, p1, p2, p3, p4, hr', d1, d2, d3, d4, d5]
    (repeat (with_reducible refine Or.inr ?_))
    rw [← hQ]
    exact postF_cell (id := nx) (x := zeroMS) (.inl rfl) rfl o_sMod (by simp [upd_app] <;> omega) (by simp [upd_app]) (by simp [upd_app]) ld_sMod (by simp [upd_app] <;> omega) (by intro i hi; simp only [upd_app]; repeat rw [if_neg (by omega)]) (by simp <;> omega)
  have d5 : decide (s = 0) = false := by simpa using n5
  by_cases n6 : s < 0
  · rw [hbad (fun h => absurd n6 (Rat.not_lt.2 (Rat.le_of_lt h.2.2.2.1)))]
    have d6 : decide (s < 0) = true := by simpa using n6
    (intro fr0 h nx id hm hid; refine inOkF_of_wpc (W := ⟨fun _ => false, fun r => if r = 7 then some [(0, 5), (1, 5), (2, 5), (3, 5), (4, 5)] else none⟩) hm' Tryz.func19 rfl (by kernel_rfl) (Nat.le_of_ble_eq_true rfl) (by simp [AV.pure, AV.pureL, natA_pure, natI_pure, natS_pure]) (go_start ?_); generalize hQ : PostF Tryz.prog Tryz.f19 _ _ _ = Q; clear fr0)
    simp (disch := omega) only [go_sem, ↓k_cond, ↓x_idx, ↓k_block, Nat.reduceEqDiff, Nat.reduceBEq, ↓reduceIte, reduceCtorEq, ↓k_appE, hm, p1, p2, p3, p4, hr', d1, d2, d3, d4, d5, d6]
    (repeat (with_reducible refine Or.inr ?_))
    rw [← hQ]
    exact postF_cell (id := nx) (x := zeroMS) (.inl rfl) rfl o_sMod (by simp [upd_app] <;> omega) (by simp [upd_app]) (by simp [upd_app]) ld_sMod (by simp [upd_app] <;> omega) (by intro i hi; simp only [upd_app]; repeat rw [if_neg (by omega)]) (by simp <;> omega)
  have d6 : decide (s < 0) = false := by simpa using n6
  have e7 : (1 - c - s < 0) ↔ ¬ (c + s ≤ 1) := by rw [Rat.not_le]; constructor <;> intro h <;> grind
  by_cases n7 : 1 - c - s < 0
  · rw [hbad (fun h => absurd h.2.2.2.2.2.2 (e7.1 n7))]
    have d7 : decide (1 - c - s < 0) = true := by simpa using n7
    (intro fr0 h nx id hm hid; refine inOkF_of_wpc (W := ⟨fun _ => false, fun r => if r = 7 then some [(0, 5), (1, 5), (2, 5), (3, 5), (4, 5)] else none⟩) hm' Tryz.func19 rfl (by kernel_rfl) (Nat.le_of_ble_eq_true rfl) (by simp [AV.pure, AV.pureL, natA_pure, natI_pure, natS_pure]) (go_start ?_); generalize hQ : PostF Tryz.prog Tryz.f19 _ _ _ = Q; clear fr0)
    simp (disch := omega) only [go_sem, ↓k_cond, ↓x_idx, ↓k_block, Nat.reduceEqDiff, Nat.reduceBEq, ↓reduceIte, reduceCtorEq, ↓k_appE, hm, p1, p2, p3, p4, hr', d1, d2, d3, d4, d5, d6, d7]
    (repeat (with_reducible refine Or.inr ?_))
    rw [← hQ]
    exact postF_cell (id := nx) (x := zeroMS) (.inl rfl) rfl o_sMod (by simp [upd_app] <;> omega) (by simp [upd_app]) (by simp [upd_app]) ld_sMod (by simp [upd_app] <;> omega) (by intro i hi; simp only [upd_app]; repeat rw [if_neg (by omega)]) (by simp <;> omega)
  have d7 : decide (1 - c - s < 0) = false := by simpa using n7
  have hok : modOk m c s r k := by
    have hr2 : 1 ≤ m.room ∧ m.room ≤ 8 := by simpa using hr
    refine ⟨hr2.1, hr2.2, ?_, ?_, Rat.not_lt.1 n1, Rat.not_lt.1 n2, ?_⟩
    · exact Rat.lt_of_le_of_ne (Rat.not_lt.1 n4) (fun e => n3 e.symm)
    · exact Rat.lt_of_le_of_ne (Rat.not_lt.1 n6) (fun e => n5 e.symm)
    · exact Classical.byContradiction fun h => n7 (e7.2 h)
  have hmod : modR m = some ⟨m.room.toNat, c, s, r, k⟩ := by simp only [modR, e1, e2, e3, e4, if_pos hok]
  have hrn : ((m.room.toNat : Nat) : Int) = m.room := Int.toNat_of_nonneg (by have := hok.1; omega)
  rw [hmod, modS_s]
  (intro fr0 h nx id hm hid; refine inOkF_of_wpc (W := ⟨fun _ => false, fun r => if r = 7 then some [(0, 5), (1, 5), (2, 5), (3, 5), (4, 5)] else none⟩) hm' Tryz.func19 rfl (by kernel_rfl) (Nat.le_of_ble_eq_true rfl) (by simp [AV.pure, AV.pureL, natA_pure, natI_pure, natS_pure]) (go_start ?_); generalize hQ : PostF Tryz.prog Tryz.f19 _ _ _ = Q; clear fr0)
  simp (disch := omega) only [go_sem, ↓k_cond, ↓x_idx, ↓k_block, Nat.reduceEqDiff, Nat.reduceBEq, ↓reduceIte, reduceCtorEq, ↓k_appE, hm, p1, p2, p3, p4, hr', d1, d2, d3, d4, d5, d6, d7]
  (repeat (with_reducible refine Or.inr ?_))
  rw [← hQ]
  exact postF_cell (id := nx) (x := MR.sv ⟨m.room.toNat, c, s, r, k⟩) (.inl rfl) rfl o_sMod (by simp [upd_app] <;> omega) (by simp [upd_app]) (by simp [upd_app, hrn]) ld_sMod (by simp [upd_app] <;> omega) (by intro i hi; simp only [upd_app]; repeat rw [if_neg (by omega)]) (by simp <;> omega)
theorem c_l09Parse : callable Tryz.prog 19 = true := by kernel_rfl
theorem tn0 : Int.toNat 0 = 0 := rfl
theorem tn1 : Int.toNat 1 = 1 := rfl
attribute [go_sem] tn0 tn1
theorem gen_readRat {s : List UInt8} (hs : s.length ≤ 1000000) : ∃ x y z, CW Tryz.prog 45 [.str s] (.tup [.agg [x, y, z], .bool (parseR s).isSome]) ∧ x.one = true ∧ y.one = true ∧ z.one = true := by
 have h := w_readRat (s := s) (by omega)
 cases hq : parseR s with
 | none => rw [hq] at h; exact ⟨_, _, _, h, rfl, rfl, rfl⟩
 | some q => rw [hq] at h; exact ⟨_, _, _, h, rfl, by simp, by simp⟩
def posR (s : List UInt8) : Option Rat := match parseR s with | some q => if 0 < q then some q else none | none => none
def posI : Option Rat → AV
 | some q => .tup [rI 700 q, .bool (decide (0 < q))]
 | none => .tup [.agg [.bool false, .nil, .nil], .bool false]
theorem posI_s (q : Rat) : posI (some q) = .tup [rI 700 q, .bool (decide (0 < q))] := rfl
theorem posI_n : posI none = .tup [.agg [.bool false, .nil, .nil], .bool false] := rfl
@[simp] theorem posI_pure (o : Option Rat) : (posI o).pure = true := by cases o <;> simp [posI, AV.pure, AV.pureL]
attribute [go_sem] posI_s posI_n
theorem sign_pos (q : Rat) : decide (0 < q.num.sign) = decide (0 < q) := by
  have h1 : 0 < q.num ↔ 0 < q := by
    have a := Rat.num_nonneg (q := q)
    have b := num_zero (a := q)
    constructor
    · intro h; exact Rat.lt_of_le_of_ne (a.1 (by omega)) (fun e => by rw [← e] at h; simp at h)
    · intro h
      have h2 := a.2 (Rat.le_of_lt h)
      have h3 : q.num ≠ 0 := fun e => by rw [b.1 e] at h; exact Rat.lt_irrefl h
      omega
  have h2 : 0 < q.num.sign ↔ 0 < q.num := by
    rcases Int.lt_trichotomy q.num 0 with h | h | h
    · rw [Int.sign_eq_neg_one_of_neg h]; omega
    · rw [h]; simp
    · rw [Int.sign_eq_one_of_pos h]; omega
  exact decide_eq_decide.2 (h2.trans h1)
theorem w_positive {s : List UInt8} (hs : s.length ≤ 1000000) : CW Tryz.prog 77 [.str s] (posI (parseR s)) := by
 refine cw (by kernel_rfl) (by simp [AV.pure, AV.pureL, natA_pure, natI_pure, natS_pure]) (by simp [AV.pure, AV.pureL, natA_pure, natI_pure, natS_pure]) ?_
 have h := w_readRat (s := s) (by omega)
 cases hq : parseR s with
 | none =>
  rw [hq] at h
  (refine callOk_of_wpc (W := fun _ => false) false hm' Tryz.func77 rfl (by kernel_rfl) (Nat.le_of_ble_eq_true rfl) (go_start ?_); generalize hQ : Post Tryz.prog Tryz.f77 _ _ _ _ _ = Q; simp only [stIn, matL, matA, st00])
  simp (disch := omega) only [go_sem, ↓k_cond, ↓x_idx, ↓k_block, Nat.reduceEqDiff, Nat.reduceBEq, ↓reduceIte, reduceCtorEq, h]
  (repeat (with_reducible refine Or.inr ?_))
  rw [← hQ]
  exact post_cell (id := 0) (x := .agg [.bool false, .nil, .nil]) (.inl rfl) rfl o_iRat (by simp [upd_app] <;> omega) (by simp [upd_app]) (by simp [upd_app]) ld_iRat (by simp [upd_app] <;> omega) rfl rfl
 | some q =>
  rw [hq] at h
  have hsg := sign_pos q
  have hs2 := w_sign (m := 700) (a := q) (by omega)
  rw [posI_s, ← hsg]
  generalize q.num.sign = sg at *
  by_cases hp : 0 < sg
  all_goals
   (refine callOk_of_wpc (W := fun _ => false) false hm' Tryz.func77 rfl (by kernel_rfl) (Nat.le_of_ble_eq_true rfl) (go_start ?_); generalize hQ : Post Tryz.prog Tryz.f77 _ _ _ _ _ = Q; simp only [stIn, matL, matA, st00])
   simp (disch := omega) only [go_sem, ↓k_cond, ↓x_idx, ↓k_block, Nat.reduceEqDiff, Nat.reduceBEq, ↓reduceIte, reduceCtorEq, h, hs2]
   (repeat (with_reducible refine Or.inr ?_))
   rw [← hQ]
   exact post_cell (id := 0) (x := rI 700 q) (.inl rfl) rfl o_iRat (by simp [upd_app] <;> omega) (by simp [upd_app]) (by simp [upd_app]) ld_iRat (by simp [upd_app]; omega) (by simp [AV.pure, AV.pureL]) rfl
attribute [go_sem] w_positive
attribute [go_sem] w_positive
theorem w_positives {xs : List (List UInt8)} {ex : Bool} (hl : xs.length ≤ 1000000) (hs : ∀ x ∈ xs, x.length ≤ 1000000) : CW Tryz.prog 44 [.sl 9 (strA xs) [] ex] (optLI (xs.mapM posR)) := by
  refine cw (by kernel_rfl) (by simp [AV.pure, AV.pureL, natA_pure, natI_pure, natS_pure]) (by simp [AV.pure, AV.pureL, natA_pure, natI_pure, natS_pure]) ?_
  obtain ⟨n, hn⟩ : ∃ n, xs.length = n := ⟨_, rfl⟩
  rw [hn] at hl
  (refine callOk_of_wpc (W := fun _ => false) false hm' Tryz.func44 rfl (by kernel_rfl) (Nat.le_of_ble_eq_true rfl) (go_start ?_); generalize hQ : Post Tryz.prog Tryz.f44 _ _ _ _ _ = Q; simp only [stIn, matL, matA, st00])
  simp (disch := omega) only [go_sem, ↓k_cond, ↓x_idx, ↓k_block, Nat.reduceEqDiff, Nat.reduceBEq, ↓reduceIte, reduceCtorEq, strA_length, hn]
  refine k_loop (fun (⟨i, qs⟩ : Nat × List Rat) st => st.fr 4 = .ref 0 i 0 i ∧ st.fr 10 = .sl 9 (strA xs) [] ex ∧ st.fr 11 = .int .i64 n ∧ st.fr 12 = .int .i64 i ∧ (∃ ex, st.h 0 = ⟨53, ratL 700 qs, ex, true, true⟩) ∧ 0 < st.nx ∧ (qs.length = i) ∧ (i ≤ n) ∧ ((xs.take i).mapM posR = some qs)) (fun (⟨i, qs⟩ : Nat × List Rat) => n - i) (0, [])
    ⟨(by simp [upd_app, ratL_nil] <;> omega), (by simp [upd_app, ratL_nil] <;> omega), (by simp [upd_app, ratL_nil] <;> omega), (by simp [upd_app, ratL_nil] <;> omega), ⟨true, (by simp [upd_app, ratL_nil] <;> omega)⟩, (by simp <;> omega), rfl, by omega, by simp⟩ ?_
  rintro ⟨i, qs⟩ ⟨fr, h, nx⟩ ⟨g4, g10, g11, g12, ⟨ex0, hm0⟩, hnx, hql, hi, hq⟩ J hJ
  simp only at g4 g10 g11 g12 hm0 hnx
  have n1 : (0 = nx) = False := by simp; omega
  have n2 : (nx = 0) = False := by simp; omega
  by_cases hin : i < n
  · obtain ⟨x, hx⟩ := get_some (xs := xs) (i := i) (by omega)
    have hxl := hs x (List.mem_of_getElem? hx)
    cases hp : parseR x with
    | none =>
      rw [mapM_fail hx (show posR x = none by simp [posR, hp])] at hQ
      simp (disch := omega) only [go_sem, ↓k_cond, ↓x_idx, ↓k_block, Nat.reduceEqDiff, Nat.reduceBEq, ↓reduceIte, reduceCtorEq, g4, g10, g11, g12, strA_at, hx, strA_length, hn, hp]
      (repeat (with_reducible refine Or.inr ?_))
      rw [← hQ]
      exact post_two (.inl rfl) rfl (by simp [upd_app] <;> omega) (by simp [upd_app] <;> omega) rfl rfl
    | some q =>
      by_cases h0 : 0 < q
      · have hd : decide (0 < q) = true := by simpa using h0
        have hmt := mapM_take hq hx (show posR x = some q by simp [posR, hp, h0])
        simp (disch := omega) only [go_sem, ↓k_cond, ↓x_idx, ↓k_block, Nat.reduceEqDiff, Nat.reduceBEq, ↓reduceIte, reduceCtorEq, g4, g10, g11, g12, hm0, strA_at, hx, strA_length, hn, hp, hd, n1, n2, hql, reach]
        (repeat (with_reducible refine Or.inr ?_))
        exact hJ (i + 1, qs ++ [q]) _ ⟨(by simp [upd_app] <;> omega), (by simp [upd_app, g10] <;> omega), (by simp [upd_app, g11] <;> omega), (by simp [upd_app] <;> omega), ⟨false, by simp [upd_app, n1, n2, hm0, ratL]⟩, (by simp <;> omega), by simp [hql], hin, hmt⟩ (by simp only; omega)
      · have hd : decide (0 < q) = false := by simpa using h0
        rw [mapM_fail hx (show posR x = none by simp [posR, hp, h0])] at hQ
        simp (disch := omega) only [go_sem, ↓k_cond, ↓x_idx, ↓k_block, Nat.reduceEqDiff, Nat.reduceBEq, ↓reduceIte, reduceCtorEq, g4, g10, g11, g12, strA_at, hx, strA_length, hn, hp, hd]
        (repeat (with_reducible refine Or.inr ?_))
        rw [← hQ]
        exact post_two (.inl rfl) rfl (by simp [upd_app] <;> omega) (by simp [upd_app] <;> omega) rfl rfl
  · obtain rfl : i = n := by omega
    rw [List.take_of_length_le (by omega)] at hq
    rw [hq] at hQ
    simp (disch := omega) only [go_sem, ↓k_cond, ↓x_idx, ↓k_block, Nat.reduceEqDiff, Nat.reduceBEq, ↓reduceIte, reduceCtorEq, g4, g10, g11, g12]
    rw [← hQ]
    have hfz : snapA (⟨_, h, nx⟩ : St) 7 (.ref 0 i 0 i) = some (.sl 53 (ratL 700 qs) [] false, [0]) := snap_frozen (st := ⟨fr, h, nx⟩) (d := 6) (by simp [hm0]) (by simp [hm0, ratL_length, hql]) (by simp [hm0]) (by simp) (by simp [hm0]; exact List.take_of_length_le (by simp [ratL_length, hql])) ratL_pure
    exact post_tup (.inl rfl) rfl (by simp [upd_app] <;> omega) (by simp [upd_app] <;> omega) hfz (snapA_pure rfl) (fun a _ => Nat.zero_le _) (.inl rfl)
abbrev MR.iv (x : MR) : AV := .agg [.int .i64 x.room, .bool (decide (x.come.num < 0)), tI 700 x.come, dI 700 x.come, .bool (decide (x.serve.num < 0)), tI 700 x.serve, dI 700 x.serve,
 .bool (decide (x.reward.num < 0)), tI 700 x.reward, dI 700 x.reward, .bool (decide (x.cost.num < 0)), tI 700 x.cost, dI 700 x.cost]
abbrev zeroMI : AV := .agg [.int .i64 0, .bool false, .nil, .nil, .bool false, .nil, .nil, .bool false, .nil, .nil, .bool false, .nil, .nil]
def modI : Option MR → AV
 | some x => .tup [x.iv, .bool true]
 | none => .tup [zeroMI, .bool false]
theorem modI_s (x : MR) : modI (some x) = .tup [x.iv, .bool true] := rfl
theorem modI_n : modI none = .tup [zeroMI, .bool false] := rfl
@[simp] theorem modI_pure (o : Option MR) : (modI o).pure = true := by cases o <;> simp [modI, AV.pure, AV.pureL]
attribute [go_sem] modI_s modI_n
theorem list2_sum (c s : Rat) : sumL [c, s] = c + s := by simp [sumL, Rat.zero_add]
set_option maxHeartbeats 8000000 in
theorem i_modelOf (m : Mdl) (hm0 : m.small) :
    CW Tryz.prog 23 [m.av] (modI (modR m)) := by
  refine cw (by kernel_rfl) (by simp [AV.pure, AV.pureL, natA_pure, natI_pure, natS_pure]) (by simp [AV.pure, AV.pureL, natA_pure, natI_pure, natS_pure]) ?_
  obtain ⟨l1, l2, l3, l4⟩ := hm0
  obtain ⟨x3, y3, z3, g3, a3, b3, c3⟩ := gen_readRat l3
  obtain ⟨x4, y4, z4, g4, a4, b4, c4⟩ := gen_readRat l4
  have hpos := w_positives (xs := [m.come, m.serve]) (ex := true) (by simp) (by simp [l1, l2])
  have hM : [m.come, m.serve].mapM posR = match posR m.come, posR m.serve with | some c, some s => some [c, s] | _, _ => none := by
    simp only [List.mapM_cons, List.mapM_nil]
    cases posR m.come <;> cases posR m.serve <;> rfl
  rw [hM] at hpos
  simp only [strA, List.map_cons, List.map_nil] at hpos
  have hbad : ∀ c s r k, parseR m.come = some c → parseR m.serve = some s → parseR m.reward = some r → parseR m.cost = some k → ¬ modOk m c s r k → modR m = none := by
    intro c s r k e1 e2 e3 e4 h
    simp only [modR, e1, e2, e3, e4, if_neg h]
  have hnp : (posR m.come = none ∨ posR m.serve = none) → modR m = none := by
    intro h
    unfold modR
    split
    · rename_i c s r k e1 e2 e3 e4
      refine if_neg fun ho => ?_
      simp only [posR, e1, e2, if_pos ho.2.2.1, if_pos ho.2.2.2.1] at h
      simp at h
    · rfl
  have hnone : (parseR m.reward = none ∨ parseR m.cost = none) → modR m = none := by
    intro h
    unfold modR
    split
    · rename_i e1 e2 e3 e4; simp [e3, e4] at h
    · rfl
  cases p1 : posR m.come with
  | none =>
    rw [p1] at hpos
    rw [hnp (.inl p1)]
    (refine callOk_of_wpc (W := fun _ => false) false hm' Tryz.func23 rfl (by kernel_rfl) (Nat.le_of_ble_eq_true rfl) (go_start ?_); generalize hQ : Post Tryz.prog Tryz.f23 _ _ _ _ _ = Q; simp only [stIn, matL, matA, st00])
    simp (disch := omega) only [go_sem, ↓k_cond, ↓x_idx, ↓k_block, Nat.reduceEqDiff, Nat.reduceBEq, ↓reduceIte, reduceCtorEq, hpos, g3, g4, a3, b3, c3, a4, b4, c4]
    (repeat (with_reducible refine Or.inr ?_))
    rw [← hQ]
    exact post_cell (id := 1) (x := zeroMI) (.inl rfl) rfl o_imodel (by simp [upd_app] <;> omega) (by simp [upd_app]) (by simp [upd_app]) ld_imodel (by simp [upd_app] <;> omega) (by simp [AV.pure, AV.pureL]) rfl
  | some c =>
  cases p2 : posR m.serve with
  | none =>
    rw [p1, p2] at hpos
    rw [hnp (.inr p2)]
    (refine callOk_of_wpc (W := fun _ => false) false hm' Tryz.func23 rfl (by kernel_rfl) (Nat.le_of_ble_eq_true rfl) (go_start ?_); generalize hQ : Post Tryz.prog Tryz.f23 _ _ _ _ _ = Q; simp only [stIn, matL, matA, st00])
    simp (disch := omega) only [go_sem, ↓k_cond, ↓x_idx, ↓k_block, Nat.reduceEqDiff, Nat.reduceBEq, ↓reduceIte, reduceCtorEq, hpos, g3, g4, a3, b3, c3, a4, b4, c4]
    (repeat (with_reducible refine Or.inr ?_))
    rw [← hQ]
    exact post_cell (id := 1) (x := zeroMI) (.inl rfl) rfl o_imodel (by simp [upd_app] <;> omega) (by simp [upd_app]) (by simp [upd_app]) ld_imodel (by simp [upd_app] <;> omega) (by simp [AV.pure, AV.pureL]) rfl
  | some s =>
  rw [p1, p2] at hpos
  simp only at hpos
  have q1 : parseR m.come = some c ∧ 0 < c := by
    unfold posR at p1
    split at p1
    · rename_i q hq; split at p1 <;> simp at p1; subst p1; exact ⟨hq, by assumption⟩
    · cases p1
  have q2 : parseR m.serve = some s ∧ 0 < s := by
    unfold posR at p2
    split at p2
    · rename_i q hq; split at p2 <;> simp at p2; subst p2; exact ⟨hq, by assumption⟩
    · cases p2
  cases e3 : parseR m.reward with
  | none =>
    rw [e3] at g3
    rw [hnone (.inl e3)]
    (refine callOk_of_wpc (W := fun _ => false) false hm' Tryz.func23 rfl (by kernel_rfl) (Nat.le_of_ble_eq_true rfl) (go_start ?_); generalize hQ : Post Tryz.prog Tryz.f23 _ _ _ _ _ = Q; simp only [stIn, matL, matA, st00])
    simp (disch := omega) only [go_sem, ↓k_cond, ↓x_idx, ↓k_block, Nat.reduceEqDiff, Nat.reduceBEq, ↓reduceIte, reduceCtorEq, hpos, g3, g4, a3, b3, c3, a4, b4, c4, Option.isSome_none]
    (repeat (with_reducible refine Or.inr ?_))
    rw [← hQ]
    exact post_cell (id := 1) (x := zeroMI) (.inl rfl) rfl o_imodel (by simp [upd_app] <;> omega) (by simp [upd_app]) (by simp [upd_app]) ld_imodel (by simp [upd_app] <;> omega) (by simp [AV.pure, AV.pureL]) rfl
  | some r =>
  cases e4 : parseR m.cost with
  | none =>
    rw [e3] at g3; rw [e4] at g4
    rw [hnone (.inr e4)]
    (refine callOk_of_wpc (W := fun _ => false) false hm' Tryz.func23 rfl (by kernel_rfl) (Nat.le_of_ble_eq_true rfl) (go_start ?_); generalize hQ : Post Tryz.prog Tryz.f23 _ _ _ _ _ = Q; simp only [stIn, matL, matA, st00])
    simp (disch := omega) only [go_sem, ↓k_cond, ↓x_idx, ↓k_block, Nat.reduceEqDiff, Nat.reduceBEq, ↓reduceIte, reduceCtorEq, hpos, g3, g4, a3, b3, c3, a4, b4, c4, Option.isSome_none, Option.isSome_some]
    (repeat (with_reducible refine Or.inr ?_))
    rw [← hQ]
    exact post_cell (id := 1) (x := zeroMI) (.inl rfl) rfl o_imodel (by simp [upd_app] <;> omega) (by simp [upd_app]) (by simp [upd_app]) ld_imodel (by simp [upd_app] <;> omega) (by simp [AV.pure, AV.pureL]) rfl
  | some k =>
  have r3 := w_readRat (s := m.reward) (by omega)
  have r4 := w_readRat (s := m.cost) (by omega)
  rw [e3] at r3; rw [e4] at r4
  have hb := hbad c s r k q1.1 q2.1 e3 e4
  have hsum := w_sum (m := 700) (qs := [c, s]) (by omega) (by simp)
  rw [list2_sum] at hsum
  simp only [List.length_cons, List.length_nil] at hsum
  have hcmp := w_cmp (m := 64 + (0 + 1 + 1) * (700 + 1)) (n := 64) (a := c + s) (b := 1) (by omega)
  have hone := w_whole (n := 1) (by omega) (by omega)
  rw [int_cast_1] at hone
  clear g3 a3 b3 c3 g4 a4 b4 c4 hnone hbad hnp x3 y3 z3 x4 y4 z4 hM
  by_cases n1 : r < 0
  · rw [hb (fun h => absurd n1 (Rat.not_lt.2 h.2.2.2.2.1))]
    have d1 : decide (r < 0) = true := by simpa using n1
    (refine callOk_of_wpc (W := fun _ => false) false hm' Tryz.func23 rfl (by kernel_rfl) (Nat.le_of_ble_eq_true rfl) (go_start ?_); generalize hQ : Post Tryz.prog Tryz.f23 _ _ _ _ _ = Q; simp only [stIn, matL, matA, st00])
    simp (disch := omega) only [go_sem, ↓k_cond, ↓x_idx, ↓k_block, Nat.reduceEqDiff, Nat.reduceBEq, ↓reduceIte, reduceCtorEq, hpos, r3, r4, d1]
    (repeat (with_reducible refine Or.inr ?_))
    rw [← hQ]
    exact post_cell (id := 1) (x := zeroMI) (.inl rfl) rfl o_imodel (by simp [upd_app] <;> omega) (by simp [upd_app]) (by simp [upd_app]) ld_imodel (by simp [upd_app] <;> omega) (by simp [AV.pure, AV.pureL]) rfl
  have d1 : decide (r < 0) = false := by simpa using n1
  by_cases n2 : k < 0
  · rw [hb (fun h => absurd n2 (Rat.not_lt.2 h.2.2.2.2.2.1))]
    have d2 : decide (k < 0) = true := by simpa using n2
    (refine callOk_of_wpc (W := fun _ => false) false hm' Tryz.func23 rfl (by kernel_rfl) (Nat.le_of_ble_eq_true rfl) (go_start ?_); generalize hQ : Post Tryz.prog Tryz.f23 _ _ _ _ _ = Q; simp only [stIn, matL, matA, st00])
    simp (disch := omega) only [go_sem, ↓k_cond, ↓x_idx, ↓k_block, Nat.reduceEqDiff, Nat.reduceBEq, ↓reduceIte, reduceCtorEq, hpos, r3, r4, d1, d2]
    (repeat (with_reducible refine Or.inr ?_))
    rw [← hQ]
    exact post_cell (id := 1) (x := zeroMI) (.inl rfl) rfl o_imodel (by simp [upd_app] <;> omega) (by simp [upd_app]) (by simp [upd_app]) ld_imodel (by simp [upd_app] <;> omega) (by simp [AV.pure, AV.pureL]) rfl
  have d2 : decide (k < 0) = false := by simpa using n2
  by_cases hr : ¬ (1 ≤ m.room ∧ m.room ≤ 8)
  · have hr' : decide (1 ≤ m.room ∧ m.room ≤ 8) = false := by simpa using hr
    rw [hb (fun h => hr ⟨h.1, h.2.1⟩)]
    (refine callOk_of_wpc (W := fun _ => false) false hm' Tryz.func23 rfl (by kernel_rfl) (Nat.le_of_ble_eq_true rfl) (go_start ?_); generalize hQ : Post Tryz.prog Tryz.f23 _ _ _ _ _ = Q; simp only [stIn, matL, matA, st00])
    simp (disch := omega) only [go_sem, ↓k_cond, ↓x_idx, ↓k_block, Nat.reduceEqDiff, Nat.reduceBEq, ↓reduceIte, reduceCtorEq, hpos, r3, r4, d1, d2, hr']
    (repeat (with_reducible refine Or.inr ?_))
    rw [← hQ]
    exact post_cell (id := 1) (x := zeroMI) (.inl rfl) rfl o_imodel (by simp [upd_app] <;> omega) (by simp [upd_app]) (by simp [upd_app]) ld_imodel (by simp [upd_app] <;> omega) (by simp [AV.pure, AV.pureL]) rfl
  have hr' : decide (1 ≤ m.room ∧ m.room ≤ 8) = true := by simpa using hr
  have hr2 : 1 ≤ m.room ∧ m.room ≤ 8 := by simpa using hr
  have hgt := cmpR_gt (a := c + s) (b := 1)
  generalize cmpR (c + s) 1 = cc at *
  by_cases n3 : 0 < cc
  · rw [hb (fun h => absurd (hgt.1 n3) (Rat.not_lt.2 h.2.2.2.2.2.2))]
    (refine callOk_of_wpc (W := fun _ => false) false hm' Tryz.func23 rfl (by kernel_rfl) (Nat.le_of_ble_eq_true rfl) (go_start ?_); generalize hQ : Post Tryz.prog Tryz.f23 _ _ _ _ _ = Q; simp only [stIn, matL, matA, st00])
    simp (disch := omega) only [go_sem, ↓k_cond, ↓x_idx, ↓k_block, Nat.reduceEqDiff, Nat.reduceBEq, ↓reduceIte, reduceCtorEq, hpos, r3, r4, d1, d2, hr', hsum, hone, hcmp, ratL, List.map_cons, List.map_nil]
    (repeat (with_reducible refine Or.inr ?_))
    rw [← hQ]
    exact post_cell (id := 1) (x := zeroMI) (.inl rfl) rfl o_imodel (by simp [upd_app] <;> omega) (by simp [upd_app]) (by simp [upd_app]) ld_imodel (by simp [upd_app] <;> omega) (by simp [AV.pure, AV.pureL]) rfl
  have hok : modOk m c s r k := ⟨hr2.1, hr2.2, q1.2, q2.2, Rat.not_lt.1 n1, Rat.not_lt.1 n2, Rat.not_lt.1 (fun h => n3 (hgt.2 h))⟩
  have hmod : modR m = some ⟨m.room.toNat, c, s, r, k⟩ := by simp only [modR, q1.1, q2.1, e3, e4, if_pos hok]
  have hrn : ((m.room.toNat : Nat) : Int) = m.room := Int.toNat_of_nonneg (by have := hok.1; omega)
  rw [hmod, modI_s]
  (refine callOk_of_wpc (W := fun _ => false) false hm' Tryz.func23 rfl (by kernel_rfl) (Nat.le_of_ble_eq_true rfl) (go_start ?_); generalize hQ : Post Tryz.prog Tryz.f23 _ _ _ _ _ = Q; simp only [stIn, matL, matA, st00])
  simp (maxSteps := 2000000) (disch := omega) only [go_sem, ↓k_cond, ↓x_idx, ↓k_block, Nat.reduceEqDiff, Nat.reduceBEq, ↓reduceIte, reduceCtorEq, hpos, r3, r4, d1, d2, hr', hsum, hone, hcmp, ratL, List.map_cons, List.map_nil]
  (repeat (with_reducible refine Or.inr ?_))
  rw [← hQ]
  exact post_cell (id := 1) (x := MR.iv ⟨m.room.toNat, c, s, r, k⟩) (.inl rfl) rfl o_imodel (by simp [upd_app] <;> omega) (by simp [upd_app]) (by simp [upd_app, hrn]) ld_imodel (by simp [upd_app] <;> omega) (by simp [AV.pure, AV.pureL]) rfl
attribute [go_sem] w_positives
def Mdl.lens (m : Mdl) : Prop := m.come.length < 4611686018427387904 ∧ m.serve.length < 4611686018427387904 ∧ m.reward.length < 4611686018427387904 ∧ m.cost.length < 4611686018427387904
def szM (m : Mdl) (l : Int) : Int :=
 if l - m.come.length < 0 then -1 else if l - m.come.length - m.serve.length < 0 then -1 else if l - m.come.length - m.serve.length - m.reward.length < 0 then -1
 else if l - m.come.length - m.serve.length - m.reward.length - m.cost.length < 0 then -1 else l - m.come.length - m.serve.length - m.reward.length - m.cost.length
theorem szM_small {m : Mdl} {l : Int} (h0 : l ≤ 1000000) (h : ¬ szM m l < 0) : m.small := by
  unfold szM at h
  unfold Mdl.small
  split at h
  · omega
  · split at h
    · omega
    · split at h
      · omega
      · split at h <;> omega
theorem l_szModel (m : Mdl) (l : Int) (h0 : 0 ≤ l) (h1 : l ≤ 1000000) (hl : m.lens) :
    CW Tryz.prog 6 [m.av, .int .i64 l] (.int .i64 (szM m l)) := by
  refine cw (by kernel_rfl) (by simp [AV.pure, AV.pureL, natA_pure, natI_pure, natS_pure]) (by simp [AV.pure, AV.pureL, natA_pure, natI_pure, natS_pure]) ?_
  obtain ⟨l1, l2, l3, l4⟩ := hl
  unfold szM
  by_cases c1 : l - m.come.length < 0
  · rw [if_pos c1]
    (refine callOk_of_wpc (W := fun _ => false) false hm' Tryz.func6 rfl (by kernel_rfl) (Nat.le_of_ble_eq_true rfl) (go_start ?_); generalize hQ : Post Tryz.prog Tryz.f6 _ _ _ _ _ = Q; simp only [stIn, matL, matA, st00])
    simp (disch := omega) only [go_sem, ↓k_cond, ↓x_idx, ↓k_block, Nat.reduceEqDiff, Nat.reduceBEq, ↓reduceIte, reduceCtorEq]
    rw [← hQ]
    exact post_one (.inl rfl) rfl (by simp [upd_app] <;> omega) rfl
  by_cases c2 : l - m.come.length - m.serve.length < 0
  · rw [if_neg c1, if_pos c2]
    (refine callOk_of_wpc (W := fun _ => false) false hm' Tryz.func6 rfl (by kernel_rfl) (Nat.le_of_ble_eq_true rfl) (go_start ?_); generalize hQ : Post Tryz.prog Tryz.f6 _ _ _ _ _ = Q; simp only [stIn, matL, matA, st00])
    simp (disch := omega) only [go_sem, ↓k_cond, ↓x_idx, ↓k_block, Nat.reduceEqDiff, Nat.reduceBEq, ↓reduceIte, reduceCtorEq]
    rw [← hQ]
    exact post_one (.inl rfl) rfl (by simp [upd_app] <;> omega) rfl
  by_cases c3 : l - m.come.length - m.serve.length - m.reward.length < 0
  · rw [if_neg c1, if_neg c2, if_pos c3]
    (refine callOk_of_wpc (W := fun _ => false) false hm' Tryz.func6 rfl (by kernel_rfl) (Nat.le_of_ble_eq_true rfl) (go_start ?_); generalize hQ : Post Tryz.prog Tryz.f6 _ _ _ _ _ = Q; simp only [stIn, matL, matA, st00])
    simp (disch := omega) only [go_sem, ↓k_cond, ↓x_idx, ↓k_block, Nat.reduceEqDiff, Nat.reduceBEq, ↓reduceIte, reduceCtorEq]
    rw [← hQ]
    exact post_one (.inl rfl) rfl (by simp [upd_app] <;> omega) rfl
  rw [if_neg c1, if_neg c2, if_neg c3]
  by_cases c4 : l - m.come.length - m.serve.length - m.reward.length - m.cost.length < 0
  · rw [if_pos c4]
    (refine callOk_of_wpc (W := fun _ => false) false hm' Tryz.func6 rfl (by kernel_rfl) (Nat.le_of_ble_eq_true rfl) (go_start ?_); generalize hQ : Post Tryz.prog Tryz.f6 _ _ _ _ _ = Q; simp only [stIn, matL, matA, st00])
    simp (disch := omega) only [go_sem, ↓k_cond, ↓x_idx, ↓k_block, Nat.reduceEqDiff, Nat.reduceBEq, ↓reduceIte, reduceCtorEq]
    rw [← hQ]
    exact post_one (.inl rfl) rfl (by simp [upd_app] <;> omega) rfl
  · rw [if_neg c4]
    (refine callOk_of_wpc (W := fun _ => false) false hm' Tryz.func6 rfl (by kernel_rfl) (Nat.le_of_ble_eq_true rfl) (go_start ?_); generalize hQ : Post Tryz.prog Tryz.f6 _ _ _ _ _ = Q; simp only [stIn, matL, matA, st00])
    simp (disch := omega) only [go_sem, ↓k_cond, ↓x_idx, ↓k_block, Nat.reduceEqDiff, Nat.reduceBEq, ↓reduceIte, reduceCtorEq]
    rw [← hQ]
    exact post_one (.inl rfl) rfl (by simp [upd_app] <;> omega) rfl
theorem l_toModel (m : Mdl) :
  CW Tryz.prog 8 [m.av] m.av := by
 refine cw (by kernel_rfl) (by simp [AV.pure, AV.pureL, natA_pure, natI_pure, natS_pure]) (by simp [AV.pure, AV.pureL, natA_pure, natI_pure, natS_pure]) ?_
 (refine callOk_of_wpc (W := fun _ => false) false hm' Tryz.func8 rfl (by kernel_rfl) (Nat.le_of_ble_eq_true rfl) (go_start ?_); generalize hQ : Post Tryz.prog Tryz.f8 _ _ _ _ _ = Q; simp only [stIn, matL, matA, st00])
 simp (disch := omega) only [go_sem, ↓k_cond, ↓x_idx, ↓k_block, Nat.reduceEqDiff, Nat.reduceBEq, ↓reduceIte, reduceCtorEq]
 rw [← hQ]
 exact post_cell1 (id := 1) (x := m.av) (.inl rfl) rfl o_iModel (by simp [upd_app] <;> omega) (by simp [upd_app]) (by simp [upd_app]) ld_iModel rfl
section
variable {P : Program} {W : FuncId → Bool} {d : Option Tmp} {ops : Array Oper} {os : List Oper} {fr : Nat → AV} {h : Nat → Blk} {nx : Nat} {K : St → Prop} {t : TokC ⟨d, ops, os, fr, h, nx, K⟩} {g : FuncId} {al : List AV}
theorem callW_X {sargs : List AV} {ids : List Nat} {r x : AV} {st' : St} (hc : CallOk P g sargs r []) (hg : callable P g = true) (hs : snapL (snapA ⟨fr, h, nx⟩ 8) al = some (sargs, ids)) (ht : r.solid = true) (hm : matA true r ⟨fr, h, nx⟩ = (x, st')) (hW : W g = true)
    (hk : wpos P W ops os (st'.put d x) K) : callW P W g al ⟨d, ops, os, fr, h, nx, K⟩ t := by
  have he : eatH (outH h [] []) [] = h := by funext i; simp [eatH, outH]
  refine callW_of (pm := al.map fun _ => .snap) (outs := []) hc hg (passL_snap' hs) ?_ (by simp) (by simp) (.inr ⟨ht, rfl⟩) (.inl rfl) ?_ ?_
  · intro hw; rw [hW] at hw; cases hw
  · intro hw; rw [hW] at hw; cases hw
  · rw [he, hm]; exact hk
end
abbrev CWT (P : Program) (g : FuncId) (al : List AV) (T : Nat) (xs sp : List AV) (ex b : Bool) : Prop :=
 ∀ (W : FuncId → Bool) (d : Option Tmp) (ops : Array Oper) (os : List Oper) (fr : Nat → AV) (h : Nat → Blk) (nx : Nat) (K : St → Prop) (t : TokC ⟨d, ops, os, fr, h, nx, K⟩), W g = true →
  callW P W g al ⟨d, ops, os, fr, h, nx, K⟩ t = (Hid (callW P W g al ⟨d, ops, os, fr, h, nx, K⟩ .mk) .mk ∨ wpos P W ops os (St.put ⟨fr, upd h nx ⟨T, xs ++ sp, ex, true, true⟩, nx + 1⟩ d (.tup [.ref nx (xs.length + sp.length) 0 xs.length, .bool b])) K)
theorem matA_ownB {T : Nat} {xs sp : List AV} {ex b : Bool} {fr : Nat → AV} {h : Nat → Blk} {nx : Nat} (hr : AV.pureL xs = true) (hs : AV.pureL sp = true) :
  matA true (.tup [.own T xs sp ex, .bool b]) ⟨fr, h, nx⟩ = (.tup [.ref nx (xs.length + sp.length) 0 xs.length, .bool b], ⟨fr, upd h nx ⟨T, xs ++ sp, ex, true, true⟩, nx + 1⟩) := by
 simp only [matA, matL, matL_pure _ _ _ hr, matL_pure _ _ _ hs, St.new]
theorem t_bools : elT Tryz.prog 25 = some 4 := by kernel_rfl
theorem o_bools : okT Tryz.prog 25 = true := by kernel_rfl
theorem i_bool : (Tryz.prog.info? 4).isSome = true := by kernel_rfl
theorem b_bool : byT Tryz.prog 4 = 1 := by kernel_rfl
theorem z_bool : zeroA Tryz.prog 4 = some (.bool false) := by kernel_rfl
theorem zk_bool : zokT Tryz.prog 4 = true := by kernel_rfl
theorem w_bool : u32T Tryz.prog 4 = false := by kernel_rfl
attribute [go_sem] t_bools o_bools i_bool b_bool z_bool zk_bool w_bool
def boolA (bs : List Bool) : List AV := bs.map .bool
theorem boolA_len {bs : List Bool} : (boolA bs).length = bs.length := by simp [boolA]
theorem boolA_at {bs : List Bool} {i : Nat} : (boolA bs)[i]? = (bs[i]?).map AV.bool := by simp [boolA]
@[simp] theorem boolA_pure (bs : List Bool) : AV.pureL (boolA bs) = true := by induction bs <;> simp_all [boolA, AV.pureL, AV.pure]
theorem boolA_snoc {bs : List Bool} {b : Bool} : boolA bs ++ [.bool b] = boolA (bs ++ [b]) := by simp [boolA]
theorem boolA_put {bs : List Bool} {i : Nat} {b : Bool} : (boolA bs).set i (.bool b) = boolA (bs.set i b) := by simp [boolA, List.map_set]
theorem snap_bools {st : St} {id n : Nat} {bs : List Bool} {ex gr : Bool} {more : List AV} (h : st.h id = ⟨4, boolA bs, ex, gr, true⟩) (hn : bs.length = n) (hp : AV.pureL more = true) : snapL (snapA st 8) (.ref id n 0 n :: more) = some (.sl 4 (boolA bs) [] false :: more, [id]) := by
 have h1 : snapA st 8 (.ref id n 0 n) = some (.sl 4 (boolA bs) [] false, [id]) := snap_frozen (d := 7) (by rw [h]) (by rw [h, boolA_len, hn]) (by rw [h]) (by omega) (by rw [h, List.drop_zero]; exact List.take_of_length_le (by rw [boolA_len]; omega)) (boolA_pure _)
 simp [snapL, h1, snapL_pure hp]
theorem postB_own {P : Program} {fn : Func} {n0 : Nat} {fl : Bool} {t u : Tmp} {id n len T : Nat} {r sp : List AV} {ex b : Bool} {st : St} {e : Ex} (he : e = .ret ∨ e = .normal) (hr : fn.results.toList = [.tmp t, .tmp u]) (hv : st.fr t = .ref id n 0 len) (hw : st.fr u = .bool b)
  (hlv : (st.h id).lv = true) (hn : (st.h id).xs.length = n) (hg : (st.h id).gr = true) (ht : (st.h id).t = T) (hl : len ≤ n) (hxs : (st.h id).xs.take len = r) (hsp : (if (st.h id).ex = true then (st.h id).xs.drop len else []) = sp) (hex : (st.h id).ex = ex) (hp : AV.pureL r = true) (hq : AV.pureL sp = true) :
  Post P fn n0 fl true (.tup [.own T r sp ex, .bool b]) [] e st := by
 refine ⟨by rcases he with rfl | rfl <;> trivial, .tup [.ref id n 0 len, .bool b], by rw [hr]; simp [resV, resL, resA, hv, hw], [id], ?_, .inl rfl⟩
 simp only [if_true]
 refine ⟨?_, by simp⟩
 have key : ownA st 7 (.ref id n 0 len) = some (.own T r sp ex, [id]) := by
  rw [ownA_ref, if_pos ⟨hlv, hn, rfl, hl, hg⟩, hxs, snapLo_pure hp, ht]
  rw [hex] at hsp
  simp only [hex, Option.bind_some]
  cases ex with
  | true => simp only [if_true] at hsp ⊢; rw [hsp, snapLo_pure hq]; simp
  | false => simp only [Bool.false_eq_true, if_false] at hsp ⊢; rw [← hsp]; simp
 have : ownA st (7 + 1) (.tup [.ref id n 0 len, .bool b]) = some (.tup [.own T r sp ex, .bool b], [id]) := by
  rw [ownA]
  have hb : ownA st 7 (.bool b) = some (.bool b, []) := ownA_pure rfl
  simp [AV.pure, AV.pureL, snapL, key, hb]
 exact this
theorem postB_two {P : Program} {fn : Func} {n0 : Nat} {fl : Bool} {t u : Tmp} {v w : AV} {st : St} {e : Ex} (he : e = .ret ∨ e = .normal) (hr : fn.results.toList = [.tmp t, .tmp u]) (hv : st.fr t = v) (hw : st.fr u = w) (hp : v.pure = true) (hq : w.pure = true) :
  Post P fn n0 fl true (.tup [v, w]) [] e st := by
 refine ⟨by rcases he with rfl | rfl <;> trivial, .tup [v, w], by rw [hr]; simp [resV, resL, resA, hv, hw], [], ?_, .inl rfl⟩
 simp only [if_true]
 exact ⟨ownA_pure (by simp [AV.pure, AV.pureL, hp, hq]), by simp⟩
def mB (k : Nat) : Bool := decide (k % 3 = 0)
def marksB (k n : Nat) : List Bool := (List.range n).map fun i => mB (k + i)
theorem marksB_len (k n : Nat) : (marksB k n).length = n := by simp [marksB]
theorem marksB_succ {k n : Nat} : marksB k (n + 1) = marksB k n ++ [mB (k + n)] := by simp [marksB, List.range_succ]
theorem marksB_at {k n i : Nat} (h : i < n) : (marksB k n)[i]? = some (mB (k + i)) := by simp [marksB, h]
theorem mB_eq {k : Nat} : ((((k % 3 : Nat) : Int)) == 0) = mB k := by
  unfold mB
  by_cases h : k % 3 = 0
  · rw [h, decide_eq_true rfl]; rfl
  · rw [decide_eq_false h]; simp; omega
theorem l_eqB {bs : List Bool} (hl : bs.length ≤ 1000) : CallOk Tryz.prog 10 [.sl 4 (boolA bs) [] false, .sl 4 (boolA bs) [] false] (.bool true) [] := by
  obtain ⟨n, hn⟩ : ∃ n, bs.length = n := ⟨_, rfl⟩
  rw [hn] at hl
  (refine callOk_of_wpc (W := fun _ => false) false hm' Tryz.func10 rfl (by kernel_rfl) (Nat.le_of_ble_eq_true rfl) (go_start ?_); generalize hQ : Post Tryz.prog Tryz.f10 _ _ _ _ _ = Q; simp only [stIn, matL, matA, st00])
  simp (disch := omega) only [go_sem, ↓k_cond, ↓x_idx, ↓k_block, Nat.reduceEqDiff, Nat.reduceBEq, ↓reduceIte, reduceCtorEq, boolA_len, hn]
  refine k_loop (fun (i : Nat) st => st.fr 0 = .sl 4 (boolA bs) [] false ∧ st.fr 1 = .sl 4 (boolA bs) [] false ∧ st.fr 5 = .int .i64 i ∧ i ≤ n) (fun i => n - i) 0 ⟨(by simp [upd_app] <;> omega), (by simp [upd_app] <;> omega), (by simp [upd_app] <;> omega), by omega⟩ ?_
  rintro i ⟨fr, h, nx⟩ ⟨g0, g1, g5, hi⟩ J hJ
  simp only at g0 g1 g5
  by_cases hin : i < n
  · obtain ⟨x, hx⟩ := get_some (xs := bs) (i := i) (by omega)
    have e : (x == x) = true := by simp
    simp (disch := omega) only [go_sem, ↓k_cond, ↓x_idx, ↓k_block, Nat.reduceEqDiff, Nat.reduceBEq, ↓reduceIte, reduceCtorEq, g0, g1, g5, boolA_len, boolA_at, hx, hn, e]
    exact hJ (i + 1) _ ⟨(by simp [upd_app, g0] <;> omega), (by simp [upd_app, g1] <;> omega), (by simp [upd_app] <;> omega), hin⟩ (by omega)
  · simp (disch := omega) only [go_sem, ↓k_cond, ↓x_idx, ↓k_block, Nat.reduceEqDiff, Nat.reduceBEq, ↓reduceIte, reduceCtorEq, g0, g1, g5, boolA_len, hn]
    rw [← hQ]
    exact post_one (.inl rfl) rfl (by simp [upd_app] <;> omega) rfl
theorem markB_set {k i : Nat} {xs : List Bool} (hi : i < xs.length) : (marksB k i ++ xs.drop i).set i (mB (k + i)) = marksB k (i + 1) ++ xs.drop (i + 1) := by
 have hl := marksB_len k i
 rw [List.set_append_right _ _ (by omega), hl, Nat.sub_self, List.drop_eq_getElem_cons hi, List.set_cons_zero, marksB_succ]
 simp
theorem i_markB {fr : Nat → AV} {h : Nat → Blk} {nx id n k : Nat} {xs : List Bool} {ex gr : Bool} (hb : h id = ⟨4, boolA xs, ex, gr, true⟩) (hn : xs.length = n) (hk : k + n < 4611686018427387904) :
    InOk Tryz.prog ⟨fr, h, nx⟩ 11 [.ref id n 0 n, .int .i64 k] (.int .i64 ((k + n : Nat) : Int)) ⟨fr, upd h id ⟨4, boolA (marksB k n), ex, gr, true⟩, nx⟩ := by
  refine inOk_of_wpc (W := fun _ => false) hm' Tryz.func11 rfl (by kernel_rfl) (Nat.le_of_ble_eq_true rfl) (go_start ?_)
  generalize hQ : PostIn Tryz.prog Tryz.f11 _ _ _ = Q
  have hal : (boolA xs).length = n := by rw [boolA_len, hn]
  simp (disch := omega) only [go_sem, ↓k_cond, ↓x_idx, ↓k_block, Nat.reduceEqDiff, Nat.reduceBEq, ↓reduceIte, reduceCtorEq, hb, hal]
  refine k_loop (fun (i : Nat) st => st.fr 0 = .ref id n 0 n ∧ st.fr 1 = .int .i64 ((k + i : Nat) : Int) ∧ st.fr 5 = .int .i64 i ∧ st.h = upd h id ⟨4, boolA (marksB k i ++ xs.drop i), ex, gr, true⟩ ∧ st.nx = nx ∧ i ≤ n) (fun i => n - i) 0
    ⟨(by simp [upd_app] <;> omega), (by simp [upd_app] <;> omega), (by simp [upd_app] <;> omega), by funext j; simp only [upd_app]; split <;> simp_all [marksB], rfl, by omega⟩ ?_
  rintro i ⟨fr1, h1, nx1⟩ ⟨g0, g1, g5, eh, enx, hi⟩ J hJ
  simp only at g0 g1 g5 eh enx
  subst eh enx
  have hal2 : (boolA (marksB k i ++ xs.drop i)).length = n := by rw [boolA_len, ← hn]; simp [marksB_len]; omega
  by_cases hin : i < n
  · have hat : (marksB k i ++ xs.drop i)[i]? = some (xs[i]'(by omega)) := by
      rw [List.getElem?_append_right (by rw [marksB_len]; omega), marksB_len, Nat.sub_self, List.drop_eq_getElem_cons (by omega)]; rfl
    have hupd : ∀ z w : Blk, upd (upd h id z) id w = upd h id w := by intro z w; funext j; simp only [upd_app]; split <;> rfl
    have hset := markB_set (k := k) (i := i) (xs := xs) (by omega)
    have hmb := mB_eq (k := k + i)
    simp (disch := omega) only [go_sem, ↓k_cond, ↓x_idx, ↓k_block, Nat.reduceEqDiff, Nat.reduceBEq, ↓reduceIte, reduceCtorEq, g0, g1, g5, hal2, boolA_at, hat, hupd, hmb, boolA_put, hset]
    (repeat (with_reducible refine Or.inr ?_))
    exact hJ (i + 1) _ ⟨(by simp [upd_app, g0] <;> omega), by simp [upd_app]; omega, (by simp [upd_app] <;> omega), rfl, rfl, hin⟩ (by omega)
  · obtain rfl : i = n := by omega
    simp (disch := omega) only [go_sem, ↓k_cond, ↓x_idx, ↓k_block, Nat.reduceEqDiff, Nat.reduceBEq, ↓reduceIte, reduceCtorEq, g0, g1, g5, hal2]
    rw [← hQ]
    exact postIn_one (.inl rfl) rfl (by simp [upd_app] <;> omega) (by rw [List.drop_eq_nil_of_le (by omega), List.append_nil]) rfl
theorem l_heldB {n k : Nat} (hk : k + n < 4611686018427387904) : CallOk Tryz.prog 12 [.sl 4 (boolA (marksB k n)) [] false, .int .i64 k] (.int .i64 ((k + n : Nat) : Int)) [] := by
  have hml := marksB_len k n
  (refine callOk_of_wpc (W := fun _ => false) false hm' Tryz.func12 rfl (by kernel_rfl) (Nat.le_of_ble_eq_true rfl) (go_start ?_); generalize hQ : Post Tryz.prog Tryz.f12 _ _ _ _ _ = Q; simp only [stIn, matL, matA, st00])
  simp (disch := omega) only [go_sem, ↓k_cond, ↓x_idx, ↓k_block, Nat.reduceEqDiff, Nat.reduceBEq, ↓reduceIte, reduceCtorEq, boolA_len, hml]
  refine k_loop (fun (i : Nat) st => st.fr 0 = .sl 4 (boolA (marksB k n)) [] false ∧ st.fr 1 = .int .i64 ((k + i : Nat) : Int) ∧ st.fr 5 = .int .i64 i ∧ i ≤ n) (fun i => n - i) 0 ⟨(by simp [upd_app] <;> omega), (by simp [upd_app] <;> omega), (by simp [upd_app] <;> omega), by omega⟩ ?_
  rintro i ⟨fr, h, nx⟩ ⟨g0, g1, g5, hi⟩ J hJ
  simp only at g0 g1 g5
  by_cases hin : i < n
  · have hat := marksB_at (k := k) hin
    have hmb := mB_eq (k := k + i)
    generalize mB (k + i) = b at hat hmb
    have e : (b == b) = true := by simp
    simp (disch := omega) only [go_sem, ↓k_cond, ↓x_idx, ↓k_block, Nat.reduceEqDiff, Nat.reduceBEq, ↓reduceIte, reduceCtorEq, g0, g1, g5, boolA_len, hml, boolA_at, hat, hmb, e]
    (repeat (with_reducible refine Or.inr ?_))
    exact hJ (i + 1) _ ⟨(by simp [upd_app, g0] <;> omega), by simp [upd_app]; omega, (by simp [upd_app] <;> omega), hin⟩ (by omega)
  · obtain rfl : i = n := by omega
    simp (disch := omega) only [go_sem, ↓k_cond, ↓x_idx, ↓k_block, Nat.reduceEqDiff, Nat.reduceBEq, ↓reduceIte, reduceCtorEq, g0, g1, g5, boolA_len, hml]
    rw [← hQ]
    exact post_one (.inl rfl) rfl (by simp [upd_app] <;> omega) rfl
section
open Go Go.ChangeShapes Go.WideShapes Go.ChangeAt Go.RowKit
inductive Cl where
 | bool
 | int (k : IntKind)
 | str
 | sl (e : Nat) (c : Cl)

def Cl.fit (P : Program) : Cl → TypeId → Prop
 | .bool, t => P.underlying t = some .bool
 | .int k, t => P.underlying t = some (.int k)
 | .str, t => P.underlying t = some .string
 | .sl e c, t => P.underlying t = some (.slice e) ∧ P.cellsOf e = 1 ∧ szT P e = 1 ∧ 0 < P.bytesOf e ∧ c.fit P e

def isC : Cl → AV → Prop
 | .bool, x => ∃ b, x = .bool b
 | .int k, x => ∃ n, x = .int k n ∧ (Lit.int k n).wf = true
 | .str, x => ∃ s, x = .str s ∧ s.length < 4611686018427387904
 | .sl e c, x => ∃ xs, x = .sl e xs [] false ∧ xs.length < 4611686018427387904 ∧ ∀ y ∈ xs, isC c y
def isCL : List Cl → List AV → Prop
 | [], xs => xs = []
 | c :: cs, xs => ∃ x r, xs = x :: r ∧ isC c x ∧ isCL cs r
inductive Ty where
 | cell (c : Cl)
 | st (cs : List Cl)
def isT : Ty → AV → Prop
 | .cell c, x => isC c x
 | .st cs, x => ∃ xs, x = .agg xs ∧ isCL cs xs
def isTL : List Ty → List AV → Prop
 | [], xs => xs = []
 | c :: cs, xs => ∃ x r, xs = x :: r ∧ isT c x ∧ isTL cs r
def stFit (P : Program) : Nat → List Field → List Cl → Prop
 | _, [], [] => True
 | j, f :: fs, c :: cs => f.offset = j ∧ P.cellsOf f.type = 1 ∧ c.fit P f.type ∧ stFit P (j + 1) fs cs
 | _, _, _ => False
def Ty.fit (P : Program) : Ty → TypeId → Prop
 | .cell c, t => c.fit P t
 | .st cs, t => ∃ fs, P.underlying t = some (.struct fs) ∧ P.cellsOf t = fs.size ∧ stFit P 0 fs.toList cs
def tysFit (P : Program) : List Ty → List TypeId → Prop
 | [], [] => True
 | y :: ys, t :: ts => y.fit P t ∧ tysFit P ys ts
 | _, _ => False

theorem isC_one {c : Cl} {x : AV} (h : isC c x) : x.pure = true ∧ x.one = true ∧ x.cells = [x] := by
 induction c generalizing x with
 | bool => obtain ⟨b, rfl⟩ := h; exact ⟨rfl, rfl, rfl⟩
 | int k => obtain ⟨b, rfl, _⟩ := h; exact ⟨rfl, rfl, rfl⟩
 | str => obtain ⟨b, rfl, _⟩ := h; exact ⟨rfl, rfl, rfl⟩
 | sl e c ih =>
  obtain ⟨xs, rfl, hlen, h⟩ := h
  refine ⟨?_, rfl, rfl⟩
  simp only [AV.pure, AV.pureL, Bool.and_true]
  clear hlen
  induction xs with
  | nil => rfl
  | cons y ys ih' => simp only [AV.pureL, Bool.and_eq_true]; exact ⟨(ih (h y (by simp))).1, ih' fun z hz => h z (by simp [hz])⟩
theorem isCL_pure : ∀ {cs : List Cl} {xs : List AV}, isCL cs xs → AV.pureL xs = true
 | [], xs, h => by simp only [isCL] at h; subst h; rfl
 | c :: cs, xs, h => by
  obtain ⟨x, r, rfl, h1, h2⟩ := h
  simp only [AV.pureL, Bool.and_eq_true]; exact ⟨(isC_one h1).1, isCL_pure h2⟩
theorem isT_pure {y : Ty} {x : AV} (h : isT y x) : x.pure = true := by
 cases y with
 | cell c => exact (isC_one h).1
 | st cs => obtain ⟨xs, rfl, h⟩ := h; simp only [AV.pure]; exact isCL_pure h

theorem pick {Q : Nat → Value → AV → Prop} {n : Nat} (h : ∀ i, i < n → ∃ v x, Q i v x) : ∃ (vs : List Value) (xs : List AV), vs.length = n ∧ xs.length = n ∧ ∀ i v x, vs[i]? = some v → xs[i]? = some x → Q i v x := by
  induction n with
  | zero => exact ⟨[], [], rfl, rfl, fun i v x hv => by simp at hv⟩
  | succ n ih =>
    obtain ⟨vs, xs, h1, h2, h3⟩ := ih fun i hi => h i (by omega)
    obtain ⟨v, x, hq⟩ := h n (by omega)
    refine ⟨vs ++ [v], xs ++ [x], by simp [h1], by simp [h2], fun i v' x' hv hx => ?_⟩
    by_cases hi : i < n
    · rw [List.getElem?_append_left (by omega)] at hv hx
      exact h3 i v' x' hv hx
    · have hi' : i = n := by
        have := (List.getElem?_eq_some_iff.1 hv).1
        simp at this
        omega
      subst hi'
      rw [List.getElem?_append_right (by omega), h1, Nat.sub_self] at hv
      rw [List.getElem?_append_right (by omega), h2, Nat.sub_self] at hx
      simp only [List.getElem?_cons_zero, Option.some.injEq] at hv hx
      subst hv; subst hx
      exact hq

theorem blk_of {w : World} {a : Addr} {n : Nat} {vs : List Value} (hn : vs.length = n) (h0 : n ≠ 0) (hc : ∀ i v, vs[i]? = some v → w.cell? (a.add i) = some v) :
    a.spot = none ∧ ∃ c e f, w.heap[a.block]? = some (.cells c e f) ∧ ∀ i v, vs[i]? = some v → c[a.off + i]? = some v := by
  obtain ⟨v0, hv0⟩ : ∃ v, vs[0]? = some v := ⟨vs[0]'(by omega), by simp [List.getElem?_eq_getElem (show 0 < vs.length by omega)]⟩
  have h0 := hc 0 v0 hv0
  simp only [Addr.add, ↓reduceIte, World.cell?] at h0
  split at h0
  · rename_i c e f hb
    split at h0
    · cases h0
    · rename_i hs
      refine ⟨by simpa using hs, c, e, f, hb, fun i v hi => ?_⟩
      by_cases hi0 : i = 0
      · subst hi0
        rw [hv0] at hi; cases hi
        simpa using h0
      · have := hc i v hi
        simp only [Addr.add, if_neg hi0, World.cell?, hb] at this
        simpa using this
  · cases h0

section
variable {H : Type} {enc : TypeId × Value → H} {P : Program} {W : World} {R : Nat → Prop}

theorem open_cell : ∀ (c : Cl) {t : TypeId} {fuel : Nat} {cs : List Value} {d : DataW H} {ps : List MemPlace}, c.fit P t → DataW.trod enc P W 0 (fun _ => true) true fuel t cs = some (d, ps) →
    (∀ n ∈ d.weights P t, n ≤ reachBytes) → (∀ p ∈ ps, R p.block) → ∃ v x, cs = [v] ∧ isC c x ∧ rep P (bare W R) x v ∧ v.cells = #[v]
  | .bool, t, fuel, cs, d, ps, hf, h, hw, hp => by
    obtain ⟨b, rfl, _⟩ := DataW.trod_bool hf h
    exact ⟨_, .bool b, rfl, ⟨b, rfl⟩, by simp [rep], rfl⟩
  | .int k, t, fuel, cs, d, ps, hf, h, hw, hp => by
    obtain ⟨n, rfl, _, h1⟩ := DataW.trod_int hf h
    exact ⟨_, .int k n, rfl, ⟨n, rfl, h1⟩, by simp [rep], rfl⟩
  | .str, t, fuel, cs, d, ps, hf, h, hw, hp => by
    obtain ⟨s, rfl, hx, _⟩ := DataW.trod_string hf h
    simp only [Prod.mk.injEq] at hx
    obtain ⟨rfl, _⟩ := hx
    have := hw s.data.toList.length (by simp [DataW.weights])
    have hr : reachBytes = 140737488351232 := rfl
    exact ⟨_, .str s.data.toList, rfl, ⟨_, rfl, by omega⟩, by simp [rep], rfl⟩
  | .sl e c, t, fuel, cs, d, ps, hf, h, hw, hp => by
    obtain ⟨f1, f2, f3, f4, f5⟩ := hf
    rcases DataW.trod_slice f1 h with ⟨rfl, hx⟩ | ⟨a, len, cap, elems, rest, n, _, rfl, hx, hb, hl, hm, hlen, hel, hsp, _⟩
    · refine ⟨_, .sl e [] [] false, rfl, ⟨[], rfl, by simp, by simp⟩, ?_, rfl⟩
      simp only [rep]
      exact ⟨none, 0, rfl, by simp, by simp, by simp, [], [], rfl, rfl, by simp⟩
    simp only [Prod.mk.injEq] at hx
    obtain ⟨rfl, rfl⟩ := hx
    obtain ⟨hrl, _⟩ := hsp rfl
    rw [f2] at hel hp
    simp only [Nat.mul_one] at hel hp
    have hw1 : len * P.bytesOf e ≤ reachBytes := by
      have := hw ((elems.length + rest.length) * P.bytesOf e) (by simp [DataW.weights, f1])
      exact Nat.le_trans (Nat.mul_le_mul_right _ (by omega)) this
    have hlen' : len < 4611686018427387904 := by
      have hr : reachBytes = 140737488351232 := rfl
      have := Nat.le_mul_of_pos_right len f4
      omega
    have hblk : len ≠ 0 → R a.block := fun hne => hp (.cell a.block (a.off + 0)) (by
      simp only [List.mem_append, MemPlace.row, List.mem_map, List.mem_range]
      exact .inl ⟨0, by omega, rfl⟩)
    have each : ∀ i, i < len → ∃ v x, W.cell? (a.add i) = some v ∧ isC c x ∧ rep P (bare W R) x v ∧ v.cells = #[v] := by
      intro i hi
      have hy := hel i hi
      obtain ⟨y, hy'⟩ : ∃ y, elems[i]? = some y := ⟨elems[i]'(by omega), by simp [List.getElem?_eq_getElem (show i < elems.length by omega)]⟩
      rw [hy', Option.bind_eq_some_iff] at hy
      obtain ⟨cs', hcs, hz⟩ := hy
      have hmem : y ∈ elems := List.mem_of_getElem? hy'
      obtain ⟨v, x, rfl, h2, h3, h4⟩ := open_cell c f5 hz (fun n hn => hw n (by
        simp only [DataW.weights, f1, List.mem_cons, List.mem_append]
        exact .inr (.inl (mem_all hmem hn)))) (fun p hp' => hp p (by
        simp only [List.mem_append, List.mem_flatMap]
        exact .inr ⟨y, .inl hmem, hp'⟩))
      exact ⟨v, x, cell_of_cells?_one hcs, h2, h3, h4⟩
    obtain ⟨vs, xs, k1, k2, k3⟩ := pick each
    have hx : ∀ y ∈ xs, isC c y := by
      intro y hy
      obtain ⟨i, hi⟩ := List.getElem?_of_mem hy
      have hlt : i < vs.length := by have := (List.getElem?_eq_some_iff.1 hi).1; omega
      exact (k3 i vs[i] y (List.getElem?_eq_getElem hlt) hi).2.1
    have hv : ∀ (i : Nat) (v : Value), vs[i]? = some v → W.cell? (a.add i) = some v ∧ v.cells = #[v] := by
      intro i v hi
      have hlt : i < xs.length := by have := (List.getElem?_eq_some_iff.1 hi).1; omega
      have := k3 i v xs[i] hi (List.getElem?_eq_getElem hlt)
      exact ⟨this.1, this.2.2.2⟩
    refine ⟨_, .sl e xs [] false, rfl, ⟨xs, rfl, by omega, hx⟩, ?_, rfl⟩
    simp only [rep]
    refine ⟨some a, cap, by rw [k2], by simpa [k2] using hl, by simp, ?_, vs, [], repL_mk (k1.trans k2.symm) fun i x v h1 h2 => (k3 i v x h2 h1).2.2.1, by simp [repL], fun hne => ?_⟩
    · intro y hy
      rw [List.append_nil] at hy
      have := isC_one (hx y hy)
      simp [AV.el, this.2.1, this.2.2, f3]
    · have hne' : len ≠ 0 := by rw [k2] at hne; simpa using hne
      obtain ⟨hs, cc, ee, ff, hh, hc⟩ := blk_of k1 hne' fun i v hi => (hv i v hi).1
      refine ⟨a.block, a.off, cc, (ee, ff), by cases a; simp_all, hblk hne', hh, fun i v hi => ?_⟩
      rw [List.append_nil] at hi
      rw [(hv i v hi).2, f3]
      refine ⟨by simp, fun j u hj => ?_⟩
      have hj0 : j = 0 ∧ u = v := by cases j <;> simp_all
      obtain ⟨rfl, rfl⟩ := hj0
      simpa using hc i u hi
where
  mem_all {e : TypeId} {y : DataW H × List MemPlace} {n : Nat} : ∀ {elems : List (DataW H × List MemPlace)}, y ∈ elems → n ∈ y.1.weights P e → n ∈ DataW.weightsAll P e (elems.map (·.1))
    | z :: elems, hm, hn => by
      simp only [List.map_cons, DataW.weightsAll, List.mem_append]
      rcases List.mem_cons.1 hm with rfl | hm
      · exact .inl hn
      · exact .inr (mem_all hm hn)

theorem open_fields {n : Nat} {vs : List Value} : ∀ (cs : List Cl) (fs : List Field) (j : Nat) (xs : List (DataW H × List MemPlace)), stFit P j fs cs → vs.length = j + fs.length → xs.length = fs.length →
    (∀ (i : Nat) (f : Field), fs[i]? = some f → DataW.trod enc P W 0 (fun _ => true) true n f.type ((vs.drop f.offset).take (P.cellsOf f.type)) = xs[i]?) →
    (∀ n ∈ DataW.weightsEach P (fs.map (·.type)) (xs.map (·.1)), n ≤ reachBytes) → (∀ p ∈ xs.flatMap (·.2), R p.block) → ∃ avs, isCL cs avs ∧ repL P (bare W R) avs (vs.drop j)
  | [], [], j, xs, _, hl, _, _, _, _ => ⟨[], rfl, by
      have hl : vs.length = j := by simpa using hl
      simp [repL, ← hl]⟩
  | c :: cs, f :: fs, j, y :: xs, ⟨h1, h2, h3, h4⟩, hl, hx, ht, hw, hp => by
    have h0 := ht 0 f rfl
    simp only [List.length_cons] at hl hx
    rw [h1, h2, List.getElem?_cons_zero] at h0
    obtain ⟨v, x, k1, k2, k3, k4⟩ := open_cell (R := R) c h3 h0 (fun n hn => hw n (by simp [DataW.weightsEach, hn])) (fun p hp' => hp p (by simp [hp']))
    have hx' : xs.length = fs.length := by omega
    obtain ⟨avs, q1, q2⟩ := open_fields (vs := vs) cs fs (j + 1) xs h4 (by omega) hx' (fun i f' hi => by simpa using ht (i + 1) f' (by simpa using hi)) (fun n hn => hw n (by simp [DataW.weightsEach, hn])) (fun p hp' => hp p (by
      simp only [List.flatMap_cons, List.mem_append]; exact .inr hp'))
    have hd : vs.drop j = v :: vs.drop (j + 1) := by
      have hj : j < vs.length := by omega
      rw [List.drop_eq_getElem_cons hj] at k1 ⊢
      simp only [List.take_succ_cons, List.take_zero, List.cons.injEq, and_true] at k1
      rw [k1]
    refine ⟨x :: avs, ⟨x, avs, rfl, k2, q1⟩, ?_⟩
    rw [hd]
    exact ⟨v, _, rfl, k3, q2⟩
  | [], _ :: _, _, _, h, _, _, _, _, _ => by simp [stFit] at h
  | _ :: _, [], _, _, h, _, _, _, _, _ => by simp [stFit] at h
  | _ :: _, _ :: _, _, [], _, _, h, _, _, _ => by simp at h

theorem one_okWide {c : Cl} {t : TypeId} {base : Nat} {v : Value} (hf : c.fit P t) (h : Value.okWide P W .any base t v) : v.cells = #[v] := by
 cases c with
 | bool => obtain ⟨b, rfl⟩ := okWide_bool hf h; rfl
 | int k => obtain ⟨b, rfl⟩ := okWide_int hf h; rfl
 | str => obtain ⟨b, rfl⟩ := okWide_string hf h; rfl
 | sl e c => obtain ⟨a, b, d, rfl⟩ := okWide_slice hf.1 h; rfl

theorem open_type {y : Ty} {t : TypeId} {base : Nat} {v : Value} {d : DataW H} {ps : List MemPlace} (hf : y.fit P t) (hok : Value.okWide P W .any base t v) (h : DataW.Trod enc P W 0 (fun _ => true) true t v d ps)
  (hw : ∀ n ∈ d.weights P t, n ≤ reachBytes) (hp : ∀ p ∈ ps, R p.block) : ∃ x, isT y x ∧ rep P (bare W R) x v := by
 obtain ⟨fuel, h⟩ := h
 cases y with
 | cell c =>
  obtain ⟨u, x, k1, k2, k3, k4⟩ := open_cell c hf h hw hp
  rw [one_okWide hf hok] at k1
  simp only [List.cons.injEq, and_true] at k1
  subst k1
  exact ⟨x, k2, k3⟩
 | st cs =>
  obtain ⟨fs, f1, f2, f3⟩ := hf
  obtain ⟨xs, n, _, hx, hl, hlen, hfd⟩ := DataW.trod_struct f1 h
  simp only [Prod.mk.injEq] at hx
  obtain ⟨rfl, rfl⟩ := hx
  simp only [Value.okWide, f1] at hok
  obtain ⟨vs, rfl, _, _⟩ := hok
  obtain ⟨avs, k1, k2⟩ := open_fields (R := R) (vs := vs.toList) cs fs.toList 0 xs f3 (by rw [f2] at hl; simpa [Value.cells] using hl) (by simpa using hlen) (fun i f hi => hfd i f (by simpa using hi)) (by simpa [DataW.weights, f1] using hw) hp
  exact ⟨.agg avs, ⟨avs, rfl, k1⟩, by simp only [rep]; exact ⟨vs.toList, by simp, by simpa using k2⟩⟩

theorem open_all {base : Nat} : ∀ {ys : List Ty} {ts : List TypeId} {vs : List Value} {ds : List (DataW H)} {ps : List MemPlace}, tysFit P ys ts → DataW.TrodAll enc P W 0 (fun _ => true) true ts vs ds ps →
  (∀ (j : Nat) t v, ts[j]? = some t → vs[j]? = some v → Value.okWide P W .any base t v) → (∀ n ∈ DataW.weightsEach P ts ds, n ≤ reachBytes) → (∀ p ∈ ps, R p.block) →
  ∃ xs, isTL ys xs ∧ ownRL P (bare W R) xs vs []
 | [], [], vs, ds, ps, _, h, _, _, _ => by
  obtain ⟨rfl, rfl, rfl⟩ := trodAll_nil h
  exact ⟨[], rfl, by simp [ownRL]⟩
 | y :: ys, t :: ts, vs, ds, ps, ⟨f1, f2⟩, h, hok, hw, hp => by
  obtain ⟨v, vs', d, ds', p, q, rfl, rfl, rfl, h1, h2⟩ := trodAll_cons h
  obtain ⟨x, k1, k2⟩ := open_type (R := R) f1 (hok 0 t v rfl rfl) h1 (fun n hn => hw n (by simp [DataW.weightsEach, hn])) (fun p hp' => hp p (by simp [hp']))
  obtain ⟨xs, k3, k4⟩ := open_all f2 h2 (fun j t v ht hv => hok (j + 1) t v (by simpa using ht) (by simpa using hv)) (fun n hn => hw n (by simp [DataW.weightsEach, hn])) (fun p hp' => hp p (by simp [hp']))
  refine ⟨x :: xs, ⟨x, xs, rfl, k1, k3⟩, ?_⟩
  simp only [ownRL]
  exact ⟨v, vs', [], [], rfl, rfl, ownR_of_pure x v (isT_pure k1) k2, k4⟩
 | [], _ :: _, _, _, _, h, _, _, _, _ => by simp [tysFit] at h
 | _ :: _, [], _, _, _, h, _, _, _, _ => by simp [tysFit] at h

def LawOk (P : Program) (f : FuncId) (ys : List Ty) : Prop := ∀ xs, isTL ys xs → CallOk P f xs (.bool true) []

theorem tab_lt {k : IntKind} {zs : List Int} {g : Nat} (h : Lib.TabIs P W tabName k zs) (hg : P.globalNamed tabName = some g) : g < W.heap.size := by
  unfold Lib.TabIs World.var? at h
  rw [hg, Option.bind_some] at h
  split at h
  · rename_i he; exact lt_of_heap he
  · cases h
theorem LawOk.walk {f : FuncId} {ys : List Ty} {ts : List TypeId} {args : Array Value} {ds : List (DataW H)} {ps : List MemPlace} {base : Nat} (hf : LawOk P f ys) (hy : tysFit P ys ts)
    (h : DataW.TrodAll enc P W 0 (fun _ => true) true ts args.toList ds ps) (hok : ∀ (j : Nat) t v, ts[j]? = some t → args.toList[j]? = some v → Value.okWide P W .any base t v)
    (hw : (DataW.weightsEach P ts ds).all (· ≤ reachBytes) = true) (hlt : ∀ p ∈ ps, p.block < W.heap.size) (htab : ∀ g, P.globalNamed tabName = some g → Lib.TabIs P W tabName .u64 tabNums) :
    Calls P f args W fun e w' => e = .returned (.bool true) ∧ Below W.heap.size W w' := by
  obtain ⟨xs, h1, h2⟩ := open_all (R := fun b => b < W.heap.size) hy h hok (fun n hn => by simpa using List.all_eq_true.1 hw n hn) (fun p hp => hlt p hp)
  have := hf xs h1 W _ _ _ ⟨fun _ h => h, fun g hg => ⟨tab_lt (htab g hg) hg, htab g hg⟩⟩ h2 (by simp)
  rw [Array.toArray_toList] at this
  refine this.mono fun e w' hp => ?_
  obtain ⟨v, I', L', rfl, q1, _, _, _, q5, _⟩ := hp
  have : v = .bool true := by simp only [ownR, rep] at q5; exact q5.2
  exact ⟨by rw [this], q1.os, q1.tape, q1.output, q1.size, fun k hk => q1.same k hk (by simp)⟩
end

section
variable {H : Type} {enc : TypeId × Value → H} {P : Program} {W : World}
theorem trodAll_lt : ∀ {ts : List TypeId} {vs : List Value} {ds : List (DataW H)} {ps : List MemPlace}, DataW.TrodAll enc P W 0 (fun _ => true) true ts vs ds ps → ∀ p ∈ ps, p.block < W.heap.size
  | [], _, _, _, h => by obtain ⟨_, _, rfl⟩ := trodAll_nil h; simp
  | _ :: _, _, _, _, h => by
    obtain ⟨v, vs', d, ds', p, q, rfl, rfl, rfl, ⟨m, h1⟩, h2⟩ := trodAll_cons h
    intro x hx
    rcases List.mem_append.1 hx with hx | hx
    · exact DataW.trod_lt m _ _ _ h1 x hx
    · exact trodAll_lt h2 x hx
theorem trodAll_below {W' : World} (hl : laidOutB P = true) (hb : Below W.heap.size W W') : ∀ {ts : List TypeId} {vs : List Value} {ds : List (DataW H)} {ps : List MemPlace}, ts.all (fun t => P.readableRec t && decide (t < P.types.size)) = true →
  DataW.TrodAll enc P W 0 (fun _ => true) true ts vs ds ps → (∀ p ∈ ps, p.block < W.heap.size) → DataW.TrodAll enc P W' 0 (fun b => decide (b < W.heap.size)) true ts vs ds ps
 | [], _, _, _, _, h, _ => by obtain ⟨rfl, rfl, rfl⟩ := trodAll_nil h; rfl
 | t :: ts, _, _, _, hr, h, hlt => by
  obtain ⟨v, vs', d, ds', p, q, rfl, rfl, rfl, h1, h2⟩ := trodAll_cons h
  simp only [List.all_cons, Bool.and_eq_true, decide_eq_true_eq] at hr
  exact trodAll_cons_mk (Below.trod hl hr.1.1 hr.1.2 h1 hb fun x hx => hlt x (by simp [hx])) (trodAll_below hl hb hr.2 h2 fun x hx => hlt x (by simp [hx]))
theorem trodAll_len : ∀ {ts : List TypeId} {vs : List Value} {ds : List (DataW H)} {ps : List MemPlace}, DataW.TrodAll enc P W 0 (fun _ => true) true ts vs ds ps → ds.length = ts.length
 | [], _, _, _, h => by obtain ⟨_, rfl, _⟩ := trodAll_nil h; rfl
 | _ :: _, _, _, _, h => by
  obtain ⟨v, vs', d, ds', p, q, rfl, rfl, rfl, _, h2⟩ := trodAll_cons h
  simp [trodAll_len h2]

theorem laid_plain {P : Program} {l : List (String × DataW Unit)} {w : World} (hp : (l.filter fun x => x.2.handleName?.isSome) = []) (h : laidMetH P l w) : laidMet P l w := by
 unfold laidMetH at h; rw [hp] at h; exact h
theorem laid_drop {P : Program} {w : World} : ∀ {l : List (String × DataW Unit)} (k : Nat), laidMet P l w → laidMet P (l.drop k) w
 | _, 0, h => h
 | [], _ + 1, h => h
 | _ :: _, k + 1, h => laid_drop k h.tail
theorem tab_of_laid {P : Program} {l : List (String × DataW Unit)} {w : World} {g n : Nat} {t e : TypeId} (k : Nat) (hg : P.globalNamed tabName = some g) (hty : (P.globals[g]?).map (·.type) = some t) (ht : P.underlying t = some (.array n e)) (he : P.underlying e = some (.int .u64))
    (hce : P.cellsOf e = 1) (hct : P.cellsOf t = n) (hp : (l.filter fun x => x.2.handleName?.isSome) = []) (hk : l.drop k = (tabName, Lib.tabData .u64 tabNums) :: l.drop (k + 1)) (h : laidMetH P l w) : ∀ g', P.globalNamed tabName = some g' → Lib.TabIs P w tabName .u64 tabNums := fun _ _ => by
  have h1 := laid_drop k (laid_plain hp h)
  rw [hk] at h1
  exact Lib.tabIs_of_head hg hty ht he hce hct h1
theorem LawOk.lifted {C : Checked} {os : Os} (own : ownKnob C.prog.godebug = none) (started : os.Started) {f : FuncId} {fn : Func} {s : ChangeSpec} {apart : Bool} {X : World → Array Value → Prop} {ys : List Ty}
    {ts : List TypeId} {rt : TypeId} (hf : LawOk C.prog f ys) (hX : ∀ (w w' : World) (args : Array Value), w.heap = w'.heap → X w args → X w' args) (hT : ∀ (w : World) (args : Array Value), X w args → ∀ g, C.prog.globalNamed tabName = some g → Lib.TabIs C.prog w tabName .u64 tabNums) (noInit : C.prog.inits.idxOf? f = none) (hfn : C.prog.funcs[f]? = some fn)
    (hps : fn.params = ts.toArray) (hrs : fn.resultTypes = #[rt]) (hrt : C.prog.underlying rt = some .bool) (hy : tysFit C.prog ys ts) (hl : laidOutB C.prog = true) (hr : ts.all (fun t => C.prog.readableRec t && decide (t < C.prog.types.size)) = true)
    (hv : s.vars = []) (hs : ∀ ds : List (DataW H), ds.length = ts.length → s.fn H ds = { results := [.lit (.bool true)], args := ds })
    (witness : ∃ (w : World) (tape : Tape) (i : Input), w.os = os ∧ (w.forCall tape i).Shaped C.prog ∧ i.vars = [] ∧ Input.okWide C.prog (w.forCall tape i) .any w.heap.size f i ∧
      ((s.pre enc C.prog fn [] apart (w.forCall tape i).memory i.args ∧ X (w.forCall tape i).memory i.args) ∧ sizedMet enc C.prog fn (OpenSpec.ofChange s) apart (w.forCall tape i).memory i.args) ∧ ({} : Assume).holds C.prog (lone (Frame.enter C.prog f i.args .normal) [] (w.forCall tape i))) :
    ReturnsInHanded {} C os f .any (fun w args => (s.pre enc C.prog fn [] apart w args ∧ X w args) ∧ sizedMet enc C.prog fn (OpenSpec.ofChange s) apart w args) (s.post enc C.prog fn apart true false false) := by
  refine returnsInHanded_of_change_and (X := X) hX own started noInit hfn witness ?_
  intro W base args ds gs before hval hW _ hsz hXW _
  have hW' := hW
  obtain ⟨p, q, hA, hV, rfl, hfz, hnd⟩ := hW
  rw [hv] at hV
  obtain ⟨rfl, rfl⟩ := trodVars_none hV
  rw [hps] at hA hsz hval
  have hts : ts.toArray.toList = ts := by simp
  rw [hts] at hA hsz
  have hlt := trodAll_lt hA
  have hvt : s.plain.varTypes C.prog = [] := by simp [ChangeSpec.plain, DataSpec.varTypes, hv]
  rw [hvt, List.append_nil, List.append_nil] at hsz
  refine (hf.walk hy hA (fun j t v ht hv' => hval j t v (by simpa using ht) (by simpa using hv')) hsz hlt (hT W args hXW)).mono fun e W' ⟨he, bel⟩ => ?_
  subst he
  have hsd := hs ds (trodAll_len hA)
  refine ⟨_, rfl, ds, [], _, [], p, [], hW', ?_, ?_, ?_, bel.frame _, fun h => by cases h⟩
  · rw [List.append_nil, hsd, hrs]
    exact trodAll_mk1 (shut_bool hrt _)
  · rw [List.append_nil, hsd, hps, hts]
    exact trodAll_below hl bel hr hA hlt
  · rw [List.append_nil, hsd, hv]
    rfl
end
end
theorem snapB1 {st : St} {id n : Nat} {bs : List Bool} {ex gr : Bool} (h : st.h id = ⟨4, boolA bs, ex, gr, true⟩) (hn : bs.length = n) : snapA st 8 (.ref id n 0 n) = some (.sl 4 (boolA bs) [] false, [id]) :=
 snap_frozen (d := 7) (by rw [h]) (by rw [h, boolA_len, hn]) (by rw [h]) (by omega) (by rw [h, List.drop_zero]; exact List.take_of_length_le (by rw [boolA_len]; omega)) (boolA_pure _)
theorem snapB2 {st : St} {i j n : Nat} {bs cs : List Bool} {ex ex' gr gr' : Bool} (hi : st.h i = ⟨4, boolA bs, ex, gr, true⟩) (hj : st.h j = ⟨4, boolA cs, ex', gr', true⟩) (hn : bs.length = n) (hm : cs.length = n) :
  snapL (snapA st 8) [.ref i n 0 n, .ref j n 0 n] = some ([.sl 4 (boolA bs) [] false, .sl 4 (boolA cs) [] false], [i, j]) := by
 simp [snapL, snapB1 hi hn, snapB1 hj hm]
theorem w_markNilB {k : Int} : CW Tryz.prog 11 [.nil, .int .i64 k] (.int .i64 k) := by
 refine cw (by kernel_rfl) (by simp [AV.pure, AV.pureL, natA_pure, natI_pure, natS_pure]) (by simp [AV.pure, AV.pureL, natA_pure, natI_pure, natS_pure]) ?_
 (refine callOk_of_wpc (W := fun _ => false) false hm' Tryz.func11 rfl (by kernel_rfl) (Nat.le_of_ble_eq_true rfl) (go_start ?_); generalize hQ : Post Tryz.prog Tryz.f11 _ _ _ _ _ = Q; simp only [stIn, matL, matA, st00])
 simp (disch := omega) only [go_sem, ↓k_cond, ↓x_idx, ↓k_block, Nat.reduceEqDiff, Nat.reduceBEq, ↓reduceIte, reduceCtorEq]
 refine k_loop (fun (_ : Nat) st => st.fr 0 = .nil ∧ st.fr 1 = .int .i64 k ∧ st.fr 5 = .int .i64 0) (fun i => i) 0 ⟨(by simp [upd_app] <;> omega), (by simp [upd_app] <;> omega), (by simp [upd_app] <;> omega)⟩ ?_
 rintro i ⟨fr, h, nx⟩ ⟨g0, g1, g5⟩ J hJ
 simp only at g0 g1 g5
 simp (disch := omega) only [go_sem, ↓k_cond, ↓x_idx, ↓k_block, Nat.reduceEqDiff, Nat.reduceBEq, ↓reduceIte, reduceCtorEq, g0, g1, g5]
 rw [← hQ]
 exact post_one (.inl rfl) rfl (by simp [upd_app] <;> omega) rfl
def tyM : Ty := .st [.int .i64, .str, .str, .str, .str]
theorem isT_M {x : AV} (h : isT tyM x) : ∃ m : Mdl, x = m.av ∧ m.lens := by
 obtain ⟨xs, rfl, h⟩ := h
 obtain ⟨_, _, rfl, ⟨n, rfl, hn⟩, _, _, rfl, ⟨s1, rfl, h1⟩, _, _, rfl, ⟨s2, rfl, h2⟩, _, _, rfl, ⟨s3, rfl, h3⟩, _, _, rfl, ⟨s4, rfl, h4⟩, rfl⟩ := h
 exact ⟨⟨n, s1, s2, s3, s4⟩, rfl, ⟨h1, h2, h3, h4⟩⟩
attribute [go_sem] w_markNilB
end Go.Proofs.YtmlbjakkojbdlaaGreatDoor
