/- Ground 10. -/
import Derived.Test.YtgfencjehdbjcaaGreatDoorM9

set_option linter.unusedVariables false
set_option linter.unusedSimpArgs false
set_option maxRecDepth 100000
namespace Go.Proofs.YtgfencjehdbjcaaGreatDoor
open Go

theorem w_minus {m : Nat} {a : Rat} (h : m ≤ 274877906944) : CW Tryz.prog 63 [rI m a] (rI m (-a)) := by
  refine cw (by kernel_rfl) (by simp [AV.pure, AV.pureL]) (by simp [AV.pure, AV.pureL]) ?_
  refine callOk_told (x := rI m a) told_rI (by simp) (by simp [AV.pure, AV.pureL]) fun ha => ?_
  have hl := len32 ha.1
  rw [rI_eq (fits_neg ha), qd_neg, rI_eq ha, ratI, qd, ratI]
  have hx : 0 < (enc B32 a.num.natAbs).length ↔ a.num.natAbs ≠ 0 := ⟨fun h e => by rw [e, enc_zero] at h; simp at h, fun h => enc_len_pos B32_gt h⟩
  by_cases hn : a.num < 0
  · simp only [hn, decide_true]
    (refine callOk_of_wpc (W := fun _ => false) false hm' Tryz.func63 rfl (by kernel_rfl) (Nat.le_of_ble_eq_true rfl) (go_start ?_); generalize hQ : Post Tryz.prog Tryz.f63 _ _ _ _ _ = Q; simp only [stIn, matL, matA, st00, natI])
    simp (disch := omega) only [go_sem, Nat.reduceEqDiff, Nat.reduceBEq, ↓reduceIte, reduceCtorEq]
    rw [← hQ]
    exact post_cell1 (id := 1) (x := .agg [.bool false, natI a.num.natAbs, natI a.den]) (.inl rfl) rfl o_iRat (by simp [upd_app] <;> omega) (by simp [upd_app]) (by simp [upd_app, natI]) (by simp [ldA, partA, g_iRat, s_iRat, AV.cells]) (by simp [AV.pure, AV.pureL])
  · simp only [hn, decide_false]
    by_cases h0 : a.num.natAbs = 0
    · rw [show decide (a.num.natAbs ≠ 0) = false by simp [h0]]
      (refine callOk_of_wpc (W := fun _ => false) false hm' Tryz.func63 rfl (by kernel_rfl) (Nat.le_of_ble_eq_true rfl) (go_start ?_); generalize hQ : Post Tryz.prog Tryz.f63 _ _ _ _ _ = Q; simp only [stIn, matL, matA, st00, natI])
      simp (disch := omega) only [go_sem, Nat.reduceEqDiff, Nat.reduceBEq, ↓reduceIte, reduceCtorEq]
      rw [← hQ]
      exact post_cell1 (id := 1) (x := .agg [.bool false, natI a.num.natAbs, natI a.den]) (.inl rfl) rfl o_iRat (by simp [upd_app] <;> omega) (by simp [upd_app]) (by simp [upd_app, natI]) (by simp [ldA, partA, g_iRat, s_iRat, AV.cells]) (by simp [AV.pure, AV.pureL])
    · rw [show decide (a.num.natAbs ≠ 0) = true by simp [h0]]
      (refine callOk_of_wpc (W := fun _ => false) false hm' Tryz.func63 rfl (by kernel_rfl) (Nat.le_of_ble_eq_true rfl) (go_start ?_); generalize hQ : Post Tryz.prog Tryz.f63 _ _ _ _ _ = Q; simp only [stIn, matL, matA, st00, natI])
      simp (disch := omega) only [go_sem, Nat.reduceEqDiff, Nat.reduceBEq, ↓reduceIte, reduceCtorEq]
      rw [← hQ]
      exact post_cell1 (id := 1) (x := .agg [.bool true, natI a.num.natAbs, natI a.den]) (.inl rfl) rfl o_iRat (by simp [upd_app] <;> omega) (by simp [upd_app]) (by simp [upd_app, natI]) (by simp [ldA, partA, g_iRat, s_iRat, AV.cells]) (by simp [AV.pure, AV.pureL])
attribute [go_sem] w_minus
attribute [go_sem] w_minus
set_option maxHeartbeats 1000000 in
theorem w_add {m n : Nat} {a b : Rat} (h : m + n ≤ 274877906944) : CW Tryz.prog 34 [rI m a, rI n b] (rI (m + n + 1) (a + b)) := by
  refine cw (by kernel_rfl) (by simp [AV.pure, AV.pureL]) (by simp [AV.pure, AV.pureL]) ?_
  refine callOk_told (x := rI m a) told_rI (by simp) (by simp [AV.pure, AV.pureL]) fun ha => ?_
  refine callOk_told (x := rI n b) told_rI (by simp) (by simp [AV.pure, AV.pureL]) fun hb => ?_
  have hsa := w_sign (a := a) (m := m) (by omega)
  have hsb := w_sign (a := b) (m := n) (by omega)
  rw [rI_eq ha] at hsa
  rw [rI_eq hb] at hsb
  rw [rI_eq ha, rI_eq hb, rI_eq (fits_add ha hb)]
  have lx := len32 ha.1
  have ld := len32 ha.2
  have ly := len32 hb.1
  have le := len32 hb.2
  have hd0 := den_ne a
  have he0 := den_ne b
  have ea := self_mkRat a
  have eb := self_mkRat b
  have hxe : (enc B32 (a.num.natAbs * b.den)).length ≤ m + n := len32 (mul_lt_pow ha.1 hb.2)
  have hyd : (enc B32 (b.num.natAbs * a.den)).length ≤ m + n := by rw [Nat.add_comm m n]; exact len32 (mul_lt_pow hb.1 ha.2)
  have hde' : (enc B32 (a.den * b.den)).length ≤ m + n := len32 (mul_lt_pow ha.2 hb.2)
  have hsum : (enc B32 (a.num.natAbs * b.den + b.num.natAbs * a.den)).length ≤ m + n + 1 := by
    refine len32 ?_
    have h1 := mul_lt_pow ha.1 hb.2
    have h2 := mul_lt_pow hb.1 ha.2
    rw [Nat.add_comm n m] at h2
    rw [Nat.pow_succ]; omega
  have hsum' : (enc B32 (a.num.natAbs + b.num.natAbs)).length ≤ m + n + 1 := by
    refine len32 ?_
    have h1 := ha.1
    have h2 := hb.1
    have h3 : 2 ^ m ≤ 2 ^ (m + n) := Nat.pow_le_pow_right (by omega) (by omega)
    have h4 : 2 ^ n ≤ 2 ^ (m + n) := Nat.pow_le_pow_right (by omega) (by omega)
    rw [Nat.pow_succ]; omega
  obtain ⟨p, hp⟩ : ∃ p, decide (a.num < 0) = p := ⟨_, rfl⟩
  obtain ⟨q, hq⟩ : ∃ p, decide (b.num < 0) = p := ⟨_, rfl⟩
  have hr1 : qd a = (p, a.num.natAbs, a.den) := by rw [← hp]; rfl
  have hr2 : qd b = (q, b.num.natAbs, b.den) := by rw [← hq]; rfl
  rw [hr1] at hsa ea
  rw [hr2] at hsb eb
  clear hp hq
  by_cases hx0 : a.num = 0
  · have e : a + b = b := by rw [num_zero.1 hx0, Rat.zero_add]
    rw [e, hr1, hr2]
    rw [show a.num.sign = 0 by rw [hx0]; rfl] at hsa
    clear hsb ea eb
    simp only [ratI, natI] at hsa
    (refine callOk_of_wpc (W := fun _ => false) false hm' Tryz.func34 rfl (by kernel_rfl) (Nat.le_of_ble_eq_true rfl) (go_start ?_); generalize hQ : Post Tryz.prog Tryz.f34 _ _ _ _ _ = Q; simp only [stIn, matL, matA, st00, natI,ratI])
    simp (disch := omega) only [go_sem, Nat.reduceEqDiff, Nat.reduceBEq, ↓reduceIte, reduceCtorEq, hsa]
    (repeat (with_reducible refine Or.inr ?_))
    rw [← hQ]
    exact post_cell1 (id := 2) (x := ratI (q, b.num.natAbs, b.den)) (.inl rfl) rfl o_iRat (by simp [upd_app] <;> omega) (by simp [upd_app]) (by simp [upd_app, natI, ratI]) ld_iRat (by simp)
  have hsx : a.num.sign ≠ 0 := fun e => hx0 (Int.sign_eq_zero_iff_zero.1 e)
  by_cases hy0 : b.num = 0
  · have e : a + b = a := by rw [num_zero.1 hy0, Rat.add_zero]
    rw [e, hr1, hr2]
    rw [show b.num.sign = 0 by rw [hy0]; rfl] at hsb
    obtain ⟨s, hs⟩ : ∃ s, a.num.sign = s := ⟨_, rfl⟩
    rw [hs] at hsa hsx
    clear ea eb
    simp only [ratI, natI] at hsa hsb
    (refine callOk_of_wpc (W := fun _ => false) false hm' Tryz.func34 rfl (by kernel_rfl) (Nat.le_of_ble_eq_true rfl) (go_start ?_); generalize hQ : Post Tryz.prog Tryz.f34 _ _ _ _ _ = Q; simp only [stIn, matL, matA, st00, natI,ratI])
    simp (disch := omega) only [go_sem, Nat.reduceEqDiff, Nat.reduceBEq, ↓reduceIte, reduceCtorEq, hsa, hsb]
    (repeat (with_reducible refine Or.inr ?_))
    rw [← hQ]
    exact post_cell1 (id := 2) (x := ratI (p, a.num.natAbs, a.den)) (.inl rfl) rfl o_iRat (by simp [upd_app] <;> omega) (by simp [upd_app]) (by simp [upd_app, natI, ratI]) ld_iRat (by simp)
  have hsy : b.num.sign ≠ 0 := fun e => hy0 (Int.sign_eq_zero_iff_zero.1 e)
  clear hx0 hy0
  obtain ⟨s, hs⟩ : ∃ s, a.num.sign = s := ⟨_, rfl⟩
  obtain ⟨t, ht⟩ : ∃ s, b.num.sign = s := ⟨_, rfl⟩
  obtain ⟨v, hv⟩ : ∃ v, qd (a + b) = v := ⟨_, rfl⟩
  rw [hv, hr1, hr2]
  rw [hs] at hsa hsx; rw [ht] at hsb hsy
  simp only at ea eb
  clear hs ht hr1 hr2 ha hb
  obtain ⟨x, hx⟩ : ∃ x, a.num.natAbs = x := ⟨_, rfl⟩
  obtain ⟨y, hy⟩ : ∃ x, b.num.natAbs = x := ⟨_, rfl⟩
  obtain ⟨d, hd⟩ : ∃ x, a.den = x := ⟨_, rfl⟩
  obtain ⟨e, he⟩ : ∃ x, b.den = x := ⟨_, rfl⟩
  rw [hx, hd] at hsa ea; rw [hy, he] at hsb eb
  rw [hx] at lx hxe hsum hsum'; rw [hd] at ld hyd hde' hd0 hsum; rw [hy] at ly hyd hsum hsum'; rw [he] at le hxe hde' he0 hsum
  rw [hx, hy, hd, he]
  clear hx hy hd he
  have hne : ∀ {p q : Bool}, p ≠ q → (p == q) = false := by decide
  by_cases hde : d = e
  · subst hde
    have hcm := w_natCmp (a := d) (b := d) (by omega) (by omega)
    rw [cmpI_eq] at hcm
    obtain ⟨k1, k2, k3⟩ := add_low hd0 ea eb
    rw [hv] at k1 k2 k3
    clear ea eb hv
    by_cases hpq : p = q
    · subst hpq
      have h1 := w_natAdd (a := x) (b := y) (by omega) (by omega)
      have h2 := w_low (b := p) (m := x + y) (n := d) (by omega) (by omega) hd0
      rw [k1 rfl]
      simp only [natI, ratI] at hsa hsb hcm h1 h2
      (refine callOk_of_wpc (W := fun _ => false) false hm' Tryz.func34 rfl (by kernel_rfl) (Nat.le_of_ble_eq_true rfl) (go_start ?_); generalize hQ : Post Tryz.prog Tryz.f34 _ _ _ _ _ = Q; simp only [stIn, matL, matA, st00, natI,ratI])
      simp (disch := omega) only [go_sem, Nat.reduceEqDiff, Nat.reduceBEq, ↓reduceIte, reduceCtorEq, hsa, hsb, hcm, h1, h2]
      (repeat (with_reducible refine Or.inr ?_))
      rw [← hQ]
      exact post_cell1 (id := 2) (x := ratI (lowQ p (x + y) d)) (.inl rfl) rfl o_iRat (by simp [upd_app] <;> omega) (by simp [upd_app]) (by simp [upd_app, natI, ratI, lowQ] <;> (intros; omega)) ld_iRat (by simp)
    · have hcx := w_natCmp (a := x) (b := y) (by omega) (by omega)
      have e1 := hne hpq
      by_cases hxy : y ≤ x
      · have h1 := w_natSub (a := x) (b := y) (by omega) hxy
        have h2 := w_low (b := p) (m := x - y) (n := d) (Nat.le_trans (enc_len_mono B32_gt (Nat.sub_le x y)) (by omega)) (by omega) hd0
        have hc0 : 0 ≤ cmpI x y := cmpI_ge hxy
        rw [k2 hpq hxy]
        simp only [natI, ratI] at hsa hsb hcm hcx h1 h2
        (refine callOk_of_wpc (W := fun _ => false) false hm' Tryz.func34 rfl (by kernel_rfl) (Nat.le_of_ble_eq_true rfl) (go_start ?_); generalize hQ : Post Tryz.prog Tryz.f34 _ _ _ _ _ = Q; simp only [stIn, matL, matA, st00, natI,ratI])
        simp (disch := omega) only [go_sem, Nat.reduceEqDiff, Nat.reduceBEq, ↓reduceIte, reduceCtorEq, hsa, hsb, hcm, h1, h2, hcx, e1]
        (repeat (with_reducible refine Or.inr ?_))
        rw [← hQ]
        exact post_cell1 (id := 2) (x := ratI (lowQ p (x - y) d)) (.inl rfl) rfl o_iRat (by simp [upd_app] <;> omega) (by simp [upd_app]) (by simp [upd_app, natI, ratI, lowQ] <;> (intros; omega)) ld_iRat (by simp)
      · have h1 := w_natSub (a := y) (b := x) (by omega) (by omega)
        have h2 := w_low (b := q) (m := y - x) (n := d) (Nat.le_trans (enc_len_mono B32_gt (Nat.sub_le y x)) (by omega)) (by omega) hd0
        have hc0 : cmpI x y < 0 := by rw [cmpI_lt (by omega)]; omega
        rw [k3 hpq (by omega)]
        simp only [natI, ratI] at hsa hsb hcm hcx h1 h2
        (refine callOk_of_wpc (W := fun _ => false) false hm' Tryz.func34 rfl (by kernel_rfl) (Nat.le_of_ble_eq_true rfl) (go_start ?_); generalize hQ : Post Tryz.prog Tryz.f34 _ _ _ _ _ = Q; simp only [stIn, matL, matA, st00, natI,ratI])
        simp (disch := omega) only [go_sem, Nat.reduceEqDiff, Nat.reduceBEq, ↓reduceIte, reduceCtorEq, hsa, hsb, hcm, h1, h2, hcx, e1]
        (repeat (with_reducible refine Or.inr ?_))
        rw [← hQ]
        exact post_cell1 (id := 2) (x := ratI (lowQ q (y - x) d)) (.inl rfl) rfl o_iRat (by simp [upd_app] <;> omega) (by simp [upd_app]) (by simp [upd_app, natI, ratI, lowQ] <;> (intros; omega)) ld_iRat (by simp)
  · have hcm := w_natCmp (a := d) (b := e) (by omega) (by omega)
    have hcm0 : cmpI d e ≠ 0 := cmpI_ne (by omega)
    have m1 := w_natMul (a := x) (b := e) (by omega) (by omega)
    have m2 := w_natMul (a := y) (b := d) (by omega) (by omega)
    have m3 := w_natMul (a := d) (b := e) (by omega) (by omega)
    have hC0 : d * e ≠ 0 := Nat.mul_ne_zero hd0 he0
    rw [scale_mkRat he0] at ea
    rw [scale_mkRat hd0, Nat.mul_comm e d] at eb
    obtain ⟨k1, k2, k3⟩ := add_low hC0 ea eb
    rw [hv] at k1 k2 k3
    clear ea eb hv
    obtain ⟨X, hX⟩ : ∃ z, x * e = z := ⟨_, rfl⟩
    obtain ⟨Y, hY⟩ : ∃ z, y * d = z := ⟨_, rfl⟩
    obtain ⟨C, hC⟩ : ∃ z, d * e = z := ⟨_, rfl⟩
    rw [hX] at m1 k1 k2 k3 hxe hsum; rw [hY] at m2 k1 k2 k3 hyd hsum; rw [hC] at m3 k1 k2 k3 hC0 hde'
    by_cases hpq : p = q
    · subst hpq
      have h1 := w_natAdd (a := X) (b := Y) (by omega) (by omega)
      have h2 := w_low (b := p) (m := X + Y) (n := C) (by omega) (by omega) hC0
      rw [k1 rfl]
      simp only [natI, ratI] at hsa hsb hcm m1 m2 m3 h1 h2
      (refine callOk_of_wpc (W := fun _ => false) false hm' Tryz.func34 rfl (by kernel_rfl) (Nat.le_of_ble_eq_true rfl) (go_start ?_); generalize hQ : Post Tryz.prog Tryz.f34 _ _ _ _ _ = Q; simp only [stIn, matL, matA, st00, natI,ratI])
      simp (disch := omega) only [go_sem, Nat.reduceEqDiff, Nat.reduceBEq, ↓reduceIte, reduceCtorEq, hsa, hsb, hcm, h1, h2, m1, m2, m3]
      (repeat (with_reducible refine Or.inr ?_))
      rw [← hQ]
      exact post_cell1 (id := 2) (x := ratI (lowQ p (X + Y) C)) (.inl rfl) rfl o_iRat (by simp [upd_app] <;> omega) (by simp [upd_app]) (by simp [upd_app, natI, ratI, lowQ] <;> (intros; omega)) ld_iRat (by simp)
    · have hcx := w_natCmp (a := X) (b := Y) (by omega) (by omega)
      have e1 := hne hpq
      by_cases hxy : Y ≤ X
      · have h1 := w_natSub (a := X) (b := Y) (by omega) hxy
        have h2 := w_low (b := p) (m := X - Y) (n := C) (Nat.le_trans (enc_len_mono B32_gt (Nat.sub_le X Y)) (by omega)) (by omega) hC0
        have hc0 : 0 ≤ cmpI X Y := cmpI_ge hxy
        rw [k2 hpq hxy]
        simp only [natI, ratI] at hsa hsb hcm m1 m2 m3 hcx h1 h2
        clear k1 k2 k3 hX hY hC hsum hsum' hxe hyd hde' lx ld ly le hd0 he0 hC0 hde hne
        (refine callOk_of_wpc (W := fun _ => false) false hm' Tryz.func34 rfl (by kernel_rfl) (Nat.le_of_ble_eq_true rfl) (go_start ?_); generalize hQ : Post Tryz.prog Tryz.f34 _ _ _ _ _ = Q; simp only [stIn, matL, matA, st00, natI,ratI])
        simp (disch := omega) only [go_sem, Nat.reduceEqDiff, Nat.reduceBEq, ↓reduceIte, reduceCtorEq, hsa, hsb, hcm, h1, h2, hcx, e1, m1, m2, m3]
        (repeat (with_reducible refine Or.inr ?_))
        rw [← hQ]
        exact post_cell1 (id := 2) (x := ratI (lowQ p (X - Y) C)) (.inl rfl) rfl o_iRat (by simp [upd_app] <;> omega) (by simp [upd_app]) (by simp [upd_app, natI, ratI, lowQ] <;> (intros; omega)) ld_iRat (by simp)
      · have h1 := w_natSub (a := Y) (b := X) (by omega) (by omega)
        have h2 := w_low (b := q) (m := Y - X) (n := C) (Nat.le_trans (enc_len_mono B32_gt (Nat.sub_le Y X)) (by omega)) (by omega) hC0
        have hc0 : cmpI X Y < 0 := by rw [cmpI_lt (by omega)]; omega
        rw [k3 hpq (by omega)]
        simp only [natI, ratI] at hsa hsb hcm m1 m2 m3 hcx h1 h2
        clear k1 k2 k3 hX hY hC hsum hsum' hxe hyd hde' lx ld ly le hd0 he0 hC0 hde hne
        (refine callOk_of_wpc (W := fun _ => false) false hm' Tryz.func34 rfl (by kernel_rfl) (Nat.le_of_ble_eq_true rfl) (go_start ?_); generalize hQ : Post Tryz.prog Tryz.f34 _ _ _ _ _ = Q; simp only [stIn, matL, matA, st00, natI,ratI])
        simp (disch := omega) only [go_sem, Nat.reduceEqDiff, Nat.reduceBEq, ↓reduceIte, reduceCtorEq, hsa, hsb, hcm, h1, h2, hcx, e1, m1, m2, m3]
        (repeat (with_reducible refine Or.inr ?_))
        rw [← hQ]
        exact post_cell1 (id := 2) (x := ratI (lowQ q (Y - X) C)) (.inl rfl) rfl o_iRat (by simp [upd_app] <;> omega) (by simp [upd_app]) (by simp [upd_app, natI, ratI, lowQ] <;> (intros; omega)) ld_iRat (by simp)
attribute [go_sem] w_add
attribute [go_sem] w_add
theorem w_sub {m n : Nat} {a b : Rat} (h : m + n ≤ 274877906944) : CW Tryz.prog 85 [rI m a, rI n b] (rI (m + n + 1) (a - b)) := by
 refine cw (by kernel_rfl) (by simp [AV.pure, AV.pureL]) (by simp [AV.pure, AV.pureL]) ?_
 rw [Rat.sub_eq_add_neg]
 (refine callOk_of_wpc (W := fun _ => false) false hm' Tryz.func85 rfl (by kernel_rfl) (Nat.le_of_ble_eq_true rfl) (go_start ?_); generalize hQ : Post Tryz.prog Tryz.f85 _ _ _ _ _ = Q; simp only [stIn, matL, matA, st00])
 simp (disch := omega) only [go_sem, Nat.reduceEqDiff, Nat.reduceBEq, ↓reduceIte, reduceCtorEq]
 (repeat (with_reducible refine Or.inr ?_))
 rw [← hQ]
 exact post_cell1 (id := 2) (x := rI (m + n + 1) (a + -b)) (.inl rfl) rfl o_iRat (by simp [upd_app] <;> omega) (by simp [upd_app]) (by simp [upd_app]) ld_iRat (by simp [AV.pure, AV.pureL])
attribute [go_sem] w_sub
theorem sg_prod {p q : Bool} {x y : Nat} : sg p x * sg q y = sg (p != q) (x * y) := by cases p <;> cases q <;> simp [sg, Int.neg_mul, Int.mul_neg, Int.natCast_mul]
theorem mul_low {a b : Rat} {p q : Bool} {x y d e : Nat} (ha : qd a = (p, x, d)) (hb : qd b = (q, y, e)) (hd : d ≠ 0) (he : e ≠ 0) : qd (a * b) = lowQ (p != q) (x * y) (d * e) := by
  rw [← low_mkRat (Nat.mul_ne_zero hd he), ← sg_prod, Rat.mul_def']
  have h1 := qd_sg a
  have h2 := qd_sg b
  rw [ha] at h1; rw [hb] at h2
  rw [h1, h2, show a.den = d from congrArg (·.2.2) ha, show b.den = e from congrArg (·.2.2) hb]
theorem qd_ne {a : Rat} {p : Bool} {x d : Nat} (h : qd a = (p, x, d)) : (a.num ≠ 0 ↔ x ≠ 0) ∧ d ≠ 0 := by
  have h1 : a.num.natAbs = x := congrArg (·.2.1) h
  have h2 : a.den = d := congrArg (·.2.2) h
  exact ⟨by omega, by rw [← h2]; exact a.den_nz⟩
theorem qd_inv {b : Rat} {q : Bool} {y e : Nat} (hb : qd b = (q, y, e)) (h0 : b.num ≠ 0) : qd b⁻¹ = (q, e, y) := by
  have hy : y ≠ 0 := (qd_ne hb).1.1 h0
  have he : e ≠ 0 := (qd_ne hb).2
  have h1 : b.num.natAbs = y := congrArg (·.2.1) hb
  have h2 : b.den = e := congrArg (·.2.2) hb
  have h3 : decide (b.num < 0) = q := congrArg (·.1) hb
  have e1 := self_mkRat b
  rw [hb] at e1
  simp only at e1
  have e2 : b⁻¹ = mkRat (sg q e) y := by
    refine Rat.inv_eq_of_mul_eq_one ?_
    rw [e1, Rat.mkRat_mul_mkRat, sg_prod]
    have : (q != q) = false := by cases q <;> rfl
    rw [this, Nat.mul_comm y e]
    exact Rat.mkRat_self (1 : Rat) ▸ (by
      rw [show sg false (e * y) = (1 : Int) * ((e * y : Nat) : Int) by simp [sg], show e * y = 1 * (e * y) by omega]
      rw [show ((1 * (e * y) : Nat) : Int) = ((e * y : Nat) : Int) by simp]
      rw [Rat.mkRat_mul_right (Nat.mul_ne_zero he hy)]
      rfl)
  have hg : Nat.gcd e y = 1 := by
    have := b.reduced
    rw [Nat.Coprime, h1, h2] at this
    rw [Nat.gcd_comm]; exact this
  rw [e2, low_mkRat hy, lowQ, hg, Nat.div_one, Nat.div_one]
  simp [he]
theorem over_low {a b : Rat} {p q : Bool} {x y d e : Nat} (ha : qd a = (p, x, d)) (hb : qd b = (q, y, e)) (h0 : b.num ≠ 0) : qd (a / b) = lowQ (p != q) (x * e) (d * y) := by
 rw [Rat.div_def]
 exact mul_low ha (qd_inv hb h0) (qd_ne ha).2 ((qd_ne hb).1.1 h0)
theorem fits_inv {m : Nat} {a : Rat} (h : fits m a) (h0 : a.num ≠ 0) : fits m a⁻¹ := by
  have := qd_inv (b := a) rfl h0
  have h1 : a⁻¹.num.natAbs = a.den := congrArg (·.2.1) this
  have h2 : a⁻¹.den = a.num.natAbs := congrArg (·.2.2) this
  exact ⟨by rw [h1]; exact h.2, by rw [h2]; exact h.1⟩
theorem fits_over {m n : Nat} {a b : Rat} (h1 : fits m a) (h2 : fits n b) (h0 : b.num ≠ 0) : fits (m + n) (a / b) := by
 rw [Rat.div_def]; exact fits_mul h1 (fits_inv h2 h0) (fits_pos h1)
theorem cross_low {p : Bool} {x y d e : Nat} (hx : x ≠ 0) (hy : y ≠ 0) (hd : d ≠ 0) (he : e ≠ 0) (h1 : Nat.gcd x d = 1) (h2 : Nat.gcd y e = 1) :
  lowQ p (x * y) (d * e) = (p, x / Nat.gcd x e * (y / Nat.gcd y d), e / Nat.gcd x e * (d / Nat.gcd y d)) := by
 have k1 : 0 < Nat.gcd x e := Nat.gcd_pos_of_pos_left _ (by omega)
 have k2 : 0 < Nat.gcd y d := Nat.gcd_pos_of_pos_left _ (by omega)
 obtain ⟨g, hg⟩ : ∃ g, Nat.gcd x e = g := ⟨_, rfl⟩
 obtain ⟨k, hk⟩ : ∃ k, Nat.gcd y d = k := ⟨_, rfl⟩
 obtain ⟨x', hx'⟩ : g ∣ x := by rw [← hg]; exact Nat.gcd_dvd_left x e
 obtain ⟨e', he'⟩ : g ∣ e := by rw [← hg]; exact Nat.gcd_dvd_right x e
 obtain ⟨y', hy'⟩ : k ∣ y := by rw [← hk]; exact Nat.gcd_dvd_left y d
 obtain ⟨d', hd'⟩ : k ∣ d := by rw [← hk]; exact Nat.gcd_dvd_right y d
 rw [hg] at k1; rw [hk] at k2
 have q1 : Nat.gcd x' e' = 1 := by
  have : g * Nat.gcd x' e' = g * 1 := by rw [← Nat.gcd_mul_left, ← hx', ← he', hg]; omega
  exact Nat.eq_of_mul_eq_mul_left k1 this
 have q2 : Nat.gcd y' d' = 1 := by
  have : k * Nat.gcd y' d' = k * 1 := by rw [← Nat.gcd_mul_left, ← hy', ← hd', hk]; omega
  exact Nat.eq_of_mul_eq_mul_left k2 this
 have q3 : Nat.gcd x' d' = 1 := Nat.eq_one_of_dvd_one (by rw [← h1, hx', hd']; exact Nat.dvd_trans (Nat.gcd_dvd_gcd_of_dvd_left _ (Nat.dvd_mul_left x' g)) (Nat.gcd_dvd_gcd_of_dvd_right _ (Nat.dvd_mul_left d' k)))
 have q4 : Nat.gcd y' e' = 1 := Nat.eq_one_of_dvd_one (by rw [← h2, hy', he']; exact Nat.dvd_trans (Nat.gcd_dvd_gcd_of_dvd_left _ (Nat.dvd_mul_left y' k)) (Nat.gcd_dvd_gcd_of_dvd_right _ (Nat.dvd_mul_left e' g)))
 have hgk : 0 < g * k := Nat.mul_pos k1 k2
 have e1 : x * y = g * k * (x' * y') := by rw [hx', hy']; simp only [Nat.mul_comm, Nat.mul_left_comm, Nat.mul_assoc]
 have e2 : d * e = g * k * (e' * d') := by rw [hd', he']; simp only [Nat.mul_comm, Nat.mul_left_comm, Nat.mul_assoc]
 have q : Nat.gcd (x' * y') (e' * d') = 1 := by
  have c1 : Nat.Coprime x' (e' * d') := Nat.Coprime.mul_right q1 q3
  have c2 : Nat.Coprime y' (e' * d') := Nat.Coprime.mul_right q4 q2
  exact Nat.Coprime.mul_left c1 c2
 have hxy : x * y ≠ 0 := Nat.mul_ne_zero hx hy
 rw [lowQ, e1, e2, Nat.gcd_mul_left, q, Nat.mul_one, Nat.mul_div_cancel_left _ hgk, Nat.mul_div_cancel_left _ hgk]
 rw [e1] at hxy
 simp only [hxy, ne_eq, not_false_eq_true, decide_true, Bool.and_true]
 rw [hg, hk, hx', he', hy', hd', Nat.mul_div_cancel_left _ k1, Nat.mul_div_cancel_left _ k1, Nat.mul_div_cancel_left _ k2, Nat.mul_div_cancel_left _ k2]
theorem less_of {a b : Rat} {p q : Bool} {x y d e : Nat} (ha : qd a = (p, x, d)) (hb : qd b = (q, y, e)) :
    (p ≠ q → decide (a < b) = p) ∧ (p = q → decide (a < b) = (!p && decide (cmpI (x * e) (y * d) < 0) || p && decide (cmpI (x * e) (y * d) > 0))) ∧ (decide (a = b) = (decide (p = q) && decide (cmpI (x * e) (y * d) = 0))) := by
  have hc := cmp_lt a b
  rw [ha, hb] at hc
  have hn : ∀ m n : Nat, cmpI m n = cmpN m n := fun m n => by simp [cmpI, cmpN]
  have sx : p = true → x ≠ 0 := by
    intro h
    have h1 : decide (a.num < 0) = p := congrArg (·.1) ha
    have h2 : a.num.natAbs = x := congrArg (·.2.1) ha
    rw [h] at h1; simp at h1; omega
  have sy : q = true → y ≠ 0 := by
    intro h
    have h1 : decide (b.num < 0) = q := congrArg (·.1) hb
    have h2 : b.num.natAbs = y := congrArg (·.2.1) hb
    rw [h] at h1; simp at h1; omega
  have hd := (qd_ne ha).2
  have he := (qd_ne hb).2
  simp only [cmpQ, sgnQ] at hc
  simp only [hn]
  have mx : x = 0 → x * e = 0 := fun h => by rw [h, Nat.zero_mul]
  have my : y = 0 → y * d = 0 := fun h => by rw [h, Nat.zero_mul]
  have nx : x ≠ 0 → 0 < x * e := fun h => Nat.mul_pos (by omega) (by omega)
  have ny : y ≠ 0 → 0 < y * d := fun h => Nat.mul_pos (by omega) (by omega)
  have hlt : decide (a < b) = decide (cmpQ (p, x, d) (q, y, e) < 0) := decide_eq_decide.2 (by simp only [cmpQ, sgnQ]; exact hc.1.symm)
  have heq : decide (a = b) = decide (cmpQ (p, x, d) (q, y, e) = 0) := decide_eq_decide.2 (by simp only [cmpQ, sgnQ]; exact hc.2.symm)
  rw [hlt, heq]
  simp only [cmpQ, sgnQ, cmpN]
  generalize x * e = X at *
  generalize y * d = Y at *
  clear hc hlt heq hn
  rcases Nat.lt_trichotomy X Y with h | h | h
  · have h1 : ¬ Y < X := by omega
    simp only [h, h1, if_true, if_false]
    by_cases x0 : x = 0 <;> by_cases y0 : y = 0 <;> cases p <;> cases q <;> simp_all <;> first | omega | exact ⟨rfl, rfl⟩ | rfl
  · have h1 : ¬ Y < X := by omega
    have h2 : ¬ X < Y := by omega
    simp only [h1, h2, if_false]
    by_cases x0 : x = 0 <;> by_cases y0 : y = 0 <;> cases p <;> cases q <;> simp_all <;> first | omega | exact ⟨rfl, rfl⟩ | rfl
  · have h1 : ¬ X < Y := by omega
    simp only [h, h1, if_true, if_false]
    by_cases x0 : x = 0 <;> by_cases y0 : y = 0 <;> cases p <;> cases q <;> simp_all <;> first | omega | exact ⟨rfl, rfl⟩ | rfl
theorem natS1 : natS 1 = .sl 2 [.int .i64 1] [] false := by simp [natS, enc_one B9_gt, natA]
theorem w_sCmp1 {a : Nat} (ha : (enc B9 a).length < 9223372036854775808) : CW Tryz.prog 60 [natS a, .sl 2 [.int .i64 1] [] true] (.int .i64 (cmpI a 1)) :=
 cw (by kernel_rfl) (by simp [AV.pure, AV.pureL]) (by simp [AV.pure, AV.pureL]) ((s_Cmp hm' a 1 ha (by rw [enc_one B9_gt]; decide)).args (SubL.cons (Sub.refl _) (SubL.cons (by rw [natS1]; exact sub_sl) .nil)))
attribute [go_sem] w_sCmp1
theorem w_sMake {b : Bool} {m n : Nat} (hm : (enc B9 m).length ≤ 1099511627775) (hn : (enc B9 n).length ≤ 1099511627775) (h0 : n ≠ 0) : CW Tryz.prog 86 [.bool b, natS m, natS n] (ratS (lowQ b m n)) := by
  refine cw (by kernel_rfl) (by simp [AV.pure, AV.pureL]) (by simp [AV.pure, AV.pureL]) ?_
  obtain ⟨g, hg⟩ : ∃ g, Nat.gcd m n = g := ⟨_, rfl⟩
  have hg0 : g ≠ 0 := by rw [← hg]; exact Nat.ne_of_gt (Nat.gcd_pos_of_pos_right _ (by omega))
  have hgn : (enc B9 g).length ≤ 1099511627775 := Nat.le_trans (enc_len_mono B9_gt (by rw [← hg]; exact Nat.le_of_dvd (by omega) (Nat.gcd_dvd_right m n))) hn
  have h2 := w_sGcd (a := m) (b := n) hm hn
  have h3 := w_sDiv (a := m) (b := g) hm hg0 hgn
  have h4 := w_sDiv (a := n) (b := g) hn hg0 hgn
  have h5 := w_sCmp1 (a := g) (by omega)
  rw [lowQ]
  rw [hg] at h2 ⊢
  simp only [natS] at h2 h3 h4 h5
  have hpos : ∀ k : Nat, (0 < (enc B9 k).length) ↔ k ≠ 0 := fun k => ⟨fun h e => by rw [e, enc_zero] at h; simp at h, fun h => enc_len_pos B9_gt h⟩
  have hfin : ∀ (x : Nat), (x ≠ 0 ↔ m ≠ 0) → (b && decide (m ≠ 0)) = (b && decide (0 < (enc B9 x).length)) := fun x h => by simp [hpos, h]
  by_cases h1g : g = 1
  · subst h1g
    rw [cmpI_eq] at h5
    rw [Nat.div_one, Nat.div_one, hfin m Iff.rfl]
    cases b
    · (refine callOk_of_wpc (W := fun _ => false) false hm' Tryz.func86 rfl (by kernel_rfl) (Nat.le_of_ble_eq_true rfl) (go_start ?_); generalize hQ : Post Tryz.prog Tryz.f86 _ _ _ _ _ = Q; simp only [stIn, matL, matA, st00, natS])
      simp (disch := omega) only [go_sem, Nat.reduceEqDiff, Nat.reduceBEq, ↓reduceIte, reduceCtorEq, h2, h5]
      (repeat (with_reducible refine Or.inr ?_))
      rw [← hQ]
      exact post_cell1 (id := 0) (x := .agg [.bool (false && decide (0 < (enc B9 m).length)), natS m, natS n]) (.inl rfl) rfl o_sRat (by simp [upd_app] <;> omega) (by simp [upd_app]) (by simp [upd_app, natS]) (by simp [ratS, ldA, partA, g_sRat, s_sRat, AV.cells]) (by simp [AV.pure, AV.pureL, natS_pure])
    · (refine callOk_of_wpc (W := fun _ => false) false hm' Tryz.func86 rfl (by kernel_rfl) (Nat.le_of_ble_eq_true rfl) (go_start ?_); generalize hQ : Post Tryz.prog Tryz.f86 _ _ _ _ _ = Q; simp only [stIn, matL, matA, st00, natS])
      simp (disch := omega) only [go_sem, Nat.reduceEqDiff, Nat.reduceBEq, ↓reduceIte, reduceCtorEq, h2, h5]
      (repeat (with_reducible refine Or.inr ?_))
      rw [← hQ]
      exact post_cell1 (id := 0) (x := .agg [.bool (true && decide (0 < (enc B9 m).length)), natS m, natS n]) (.inl rfl) rfl o_sRat (by simp [upd_app] <;> omega) (by simp [upd_app]) (by simp [upd_app, natS]) (by simp [ratS, ldA, partA, g_sRat, s_sRat, AV.cells]) (by simp [AV.pure, AV.pureL, natS_pure])
  · have hc0 : cmpI g 1 ≠ 0 := cmpI_ne (by omega)
    have hm0 : m / g ≠ 0 ↔ m ≠ 0 := by
      constructor
      · rintro h rfl; simp at h
      · intro h h'
        have := Nat.div_mul_cancel (by rw [← hg]; exact Nat.gcd_dvd_left m n : g ∣ m)
        rw [h'] at this; omega
    rw [hfin (m / g) hm0]
    have hdl := enc_div_len (B := B9) (m := m) (g := g) B9_gt
    cases b
    · (refine callOk_of_wpc (W := fun _ => false) false hm' Tryz.func86 rfl (by kernel_rfl) (Nat.le_of_ble_eq_true rfl) (go_start ?_); generalize hQ : Post Tryz.prog Tryz.f86 _ _ _ _ _ = Q; simp only [stIn, matL, matA, st00, natS])
      simp (disch := omega) only [go_sem, Nat.reduceEqDiff, Nat.reduceBEq, ↓reduceIte, reduceCtorEq, h2, h3, h4, h5]
      (repeat (with_reducible refine Or.inr ?_))
      rw [← hQ]
      exact post_cell1 (id := 0) (x := .agg [.bool (false && decide (0 < (enc B9 (m / g)).length)), natS (m / g), natS (n / g)]) (.inl rfl) rfl o_sRat (by simp [upd_app] <;> omega) (by simp [upd_app]) (by simp [upd_app, natS]) (by simp [ratS, ldA, partA, g_sRat, s_sRat, AV.cells]) (by simp [AV.pure, AV.pureL, natS_pure])
    · (refine callOk_of_wpc (W := fun _ => false) false hm' Tryz.func86 rfl (by kernel_rfl) (Nat.le_of_ble_eq_true rfl) (go_start ?_); generalize hQ : Post Tryz.prog Tryz.f86 _ _ _ _ _ = Q; simp only [stIn, matL, matA, st00, natS])
      simp (disch := omega) only [go_sem, Nat.reduceEqDiff, Nat.reduceBEq, ↓reduceIte, reduceCtorEq, h2, h3, h4, h5]
      (repeat (with_reducible refine Or.inr ?_))
      rw [← hQ]
      exact post_cell1 (id := 0) (x := .agg [.bool (true && decide (0 < (enc B9 (m / g)).length)), natS (m / g), natS (n / g)]) (.inl rfl) rfl o_sRat (by simp [upd_app] <;> omega) (by simp [upd_app]) (by simp [upd_app, natS]) (by simp [ratS, ldA, partA, g_sRat, s_sRat, AV.cells]) (by simp [AV.pure, AV.pureL, natS_pure])
attribute [go_sem] w_sMake
theorem w_sInt {n : Int} (h0 : -9223372036854775807 ≤ n) (h1 : n < 9223372036854775808) : CW Tryz.prog 57 [.int .i64 n] (rS 64 (n : Rat)) := by
  refine cw (by kernel_rfl) (by simp [AV.pure, AV.pureL]) (by simp [AV.pure, AV.pureL]) ?_
  rw [rS_eq (fits_int (by omega) (by omega)), qd_int, ratS]
  refine CallOk.res (r := .agg [.bool (decide (n < 0)), natS n.natAbs, .sl 2 [.int .i64 1] [] true]) ?_ (sub_agg (SubL.cons (Sub.refl _) (SubL.cons (Sub.refl _) (SubL.cons (by rw [natS1]; exact sub_sl) .nil))))
  by_cases hn : n < 0
  · have h3 := w_sNat (n := 0 - n) (by omega) (by omega)
    rw [show (0 - n).toNat = n.natAbs by omega] at h3
    simp only [natS] at h3
    (refine callOk_of_wpc (W := fun _ => false) false hm' Tryz.func57 rfl (by kernel_rfl) (Nat.le_of_ble_eq_true rfl) (go_start ?_); generalize hQ : Post Tryz.prog Tryz.f57 _ _ _ _ _ = Q; simp only [stIn, matL, matA, st00])
    simp (disch := omega) only [go_sem, Nat.reduceEqDiff, Nat.reduceBEq, ↓reduceIte, reduceCtorEq, h3]
    (repeat (with_reducible refine Or.inr ?_))
    rw [← hQ]
    exact post_cell1 (id := 0) (x := .agg [.bool (decide (n < 0)), natS n.natAbs, .sl 2 [.int .i64 1] [] true]) (.inl rfl) rfl o_sRat (by simp [upd_app] <;> omega) (by simp [upd_app]) (by simp [upd_app, natS, hn]) (by simp [ldA, partA, g_sRat, s_sRat, AV.cells]) (by simp [AV.pure, AV.pureL, natS_pure])
  · have h3 := w_sNat (n := n) (by omega) (by omega)
    rw [show n.toNat = n.natAbs by omega] at h3
    simp only [natS] at h3
    (refine callOk_of_wpc (W := fun _ => false) false hm' Tryz.func57 rfl (by kernel_rfl) (Nat.le_of_ble_eq_true rfl) (go_start ?_); generalize hQ : Post Tryz.prog Tryz.f57 _ _ _ _ _ = Q; simp only [stIn, matL, matA, st00])
    simp (disch := omega) only [go_sem, Nat.reduceEqDiff, Nat.reduceBEq, ↓reduceIte, reduceCtorEq, h3]
    (repeat (with_reducible refine Or.inr ?_))
    rw [← hQ]
    exact post_cell1 (id := 0) (x := .agg [.bool (decide (n < 0)), natS n.natAbs, .sl 2 [.int .i64 1] [] true]) (.inl rfl) rfl o_sRat (by simp [upd_app] <;> omega) (by simp [upd_app]) (by simp [upd_app, natS, hn]) (by simp [ldA, partA, g_sRat, s_sRat, AV.cells]) (by simp [AV.pure, AV.pureL, natS_pure])
attribute [go_sem] w_sInt
theorem int_cast_1 : ((1 : Int) : Rat) = 1 := rfl
theorem int_cast_0 : ((0 : Int) : Rat) = 0 := rfl
attribute [go_sem] w_sInt
theorem w_sOne : CW Tryz.prog 40 [] (rS 64 1) := by
 refine cw (by kernel_rfl) (by simp [AV.pure, AV.pureL]) (by simp [AV.pure, AV.pureL]) ?_
 (refine callOk_of_wpc (W := fun _ => false) false hm' Tryz.func40 rfl (by kernel_rfl) (Nat.le_of_ble_eq_true rfl) (go_start ?_); generalize hQ : Post Tryz.prog Tryz.f40 _ _ _ _ _ = Q; simp only [stIn, matL, matA, st00])
 simp (disch := omega) only [go_sem, Nat.reduceEqDiff, Nat.reduceBEq, ↓reduceIte, reduceCtorEq]
 (repeat (with_reducible refine Or.inr ?_))
 rw [← hQ]
 exact post_cell1 (id := 0) (x := rS 64 1) (.inl rfl) rfl o_sRat (by simp [upd_app] <;> omega) (by simp [upd_app]) (by simp [upd_app]) ld_sRat (by simp [AV.pure, AV.pureL])
attribute [go_sem] w_sOne
theorem w_sNone : CW Tryz.prog 59 [] (rS 64 0) := by
 refine cw (by kernel_rfl) (by simp [AV.pure, AV.pureL]) (by simp [AV.pure, AV.pureL]) ?_
 (refine callOk_of_wpc (W := fun _ => false) false hm' Tryz.func59 rfl (by kernel_rfl) (Nat.le_of_ble_eq_true rfl) (go_start ?_); generalize hQ : Post Tryz.prog Tryz.f59 _ _ _ _ _ = Q; simp only [stIn, matL, matA, st00])
 simp (disch := omega) only [go_sem, Nat.reduceEqDiff, Nat.reduceBEq, ↓reduceIte, reduceCtorEq]
 (repeat (with_reducible refine Or.inr ?_))
 rw [← hQ]
 exact post_cell1 (id := 0) (x := rS 64 0) (.inl rfl) rfl o_sRat (by simp [upd_app] <;> omega) (by simp [upd_app]) (by simp [upd_app]) ld_sRat (by simp [AV.pure, AV.pureL])
attribute [go_sem] w_sNone
theorem w_sZero {m : Nat} {a : Rat} (h : m ≤ 274877906944) : CW Tryz.prog 41 [rS m a] (.bool (decide (a = 0))) := by
  refine cw (by kernel_rfl) (by simp [AV.pure, AV.pureL]) (by simp [AV.pure, AV.pureL]) ?_
  refine callOk_told (x := rS m a) told_rS (by simp) (by simp [AV.pure, AV.pureL]) fun ha => ?_
  have hl := len9 ha.1
  rw [rS_eq ha, ratS, qd]
  by_cases h0 : a.num = 0
  · rw [show decide (a = 0) = true by simpa using num_zero.1 h0, h0]
    (refine callOk_of_wpc (W := fun _ => false) false hm' Tryz.func41 rfl (by kernel_rfl) (Nat.le_of_ble_eq_true rfl) (go_start ?_); generalize hQ : Post Tryz.prog Tryz.f41 _ _ _ _ _ = Q; simp only [stIn, matL, matA, st00, natS])
    simp (disch := omega) only [go_sem, Nat.reduceEqDiff, Nat.reduceBEq, ↓reduceIte, reduceCtorEq, Int.natAbs_zero, enc_zero, natA_nil, List.length_nil]
    rw [← hQ]
    exact post_one (.inl rfl) rfl (by simp [upd_app] <;> omega) rfl
  · rw [show decide (a = 0) = false by simpa using fun e => h0 (num_zero.2 e)]
    have hl0 := enc_len_pos B9_gt (show a.num.natAbs ≠ 0 by omega)
    (refine callOk_of_wpc (W := fun _ => false) false hm' Tryz.func41 rfl (by kernel_rfl) (Nat.le_of_ble_eq_true rfl) (go_start ?_); generalize hQ : Post Tryz.prog Tryz.f41 _ _ _ _ _ = Q; simp only [stIn, matL, matA, st00, natS])
    simp (disch := omega) only [go_sem, Nat.reduceEqDiff, Nat.reduceBEq, ↓reduceIte, reduceCtorEq]
    rw [← hQ]
    exact post_one (.inl rfl) rfl (by simp [upd_app] <;> omega) rfl
attribute [go_sem] w_sZero
theorem w_sNeg {m : Nat} {a : Rat} (h : m ≤ 274877906944) : CW Tryz.prog 38 [rS m a] (.bool (decide (a < 0))) := by
 refine cw (by kernel_rfl) (by simp [AV.pure, AV.pureL]) (by simp [AV.pure, AV.pureL]) ?_
 rw [← num_neg]
 (refine callOk_of_wpc (W := fun _ => false) false hm' Tryz.func38 rfl (by kernel_rfl) (Nat.le_of_ble_eq_true rfl) (go_start ?_); generalize hQ : Post Tryz.prog Tryz.f38 _ _ _ _ _ = Q; simp only [stIn, matL, matA, st00])
 simp (disch := omega) only [go_sem, Nat.reduceEqDiff, Nat.reduceBEq, ↓reduceIte, reduceCtorEq]
 rw [← hQ]
 exact post_one (.inl rfl) rfl (by simp [upd_app] <;> omega) rfl
attribute [go_sem] w_sNeg
theorem w_sOpposite {m : Nat} {a : Rat} (h : m ≤ 274877906944) : CW Tryz.prog 54 [rS m a] (rS m (-a)) := by
  refine cw (by kernel_rfl) (by simp [AV.pure, AV.pureL]) (by simp [AV.pure, AV.pureL]) ?_
  refine callOk_told (x := rS m a) told_rS (by simp) (by simp [AV.pure, AV.pureL]) fun ha => ?_
  have hl := len9 ha.1
  rw [rS_eq (fits_neg ha), qd_neg, rS_eq ha, ratS, qd, ratS]
  have hx : 0 < (enc B9 a.num.natAbs).length ↔ a.num.natAbs ≠ 0 := ⟨fun h e => by rw [e, enc_zero] at h; simp at h, fun h => enc_len_pos B9_gt h⟩
  by_cases hn : a.num < 0
  · simp only [hn, decide_true]
    (refine callOk_of_wpc (W := fun _ => false) false hm' Tryz.func54 rfl (by kernel_rfl) (Nat.le_of_ble_eq_true rfl) (go_start ?_); generalize hQ : Post Tryz.prog Tryz.f54 _ _ _ _ _ = Q; simp only [stIn, matL, matA, st00, natS])
    simp (disch := omega) only [go_sem, Nat.reduceEqDiff, Nat.reduceBEq, ↓reduceIte, reduceCtorEq]
    rw [← hQ]
    exact post_cell1 (id := 1) (x := .agg [.bool false, natS a.num.natAbs, natS a.den]) (.inl rfl) rfl o_sRat (by simp [upd_app] <;> omega) (by simp [upd_app]) (by simp [upd_app, natS]) (by simp [ldA, partA, g_sRat, s_sRat, AV.cells]) (by simp [AV.pure, AV.pureL, natS_pure])
  · simp only [hn, decide_false]
    by_cases h0 : a.num.natAbs = 0
    · rw [show decide (a.num.natAbs ≠ 0) = false by simp [h0]]
      (refine callOk_of_wpc (W := fun _ => false) false hm' Tryz.func54 rfl (by kernel_rfl) (Nat.le_of_ble_eq_true rfl) (go_start ?_); generalize hQ : Post Tryz.prog Tryz.f54 _ _ _ _ _ = Q; simp only [stIn, matL, matA, st00, natS])
      simp (disch := omega) only [go_sem, Nat.reduceEqDiff, Nat.reduceBEq, ↓reduceIte, reduceCtorEq]
      rw [← hQ]
      exact post_cell1 (id := 1) (x := .agg [.bool false, natS a.num.natAbs, natS a.den]) (.inl rfl) rfl o_sRat (by simp [upd_app] <;> omega) (by simp [upd_app]) (by simp [upd_app, natS]) (by simp [ldA, partA, g_sRat, s_sRat, AV.cells]) (by simp [AV.pure, AV.pureL, natS_pure])
    · rw [show decide (a.num.natAbs ≠ 0) = true by simp [h0]]
      (refine callOk_of_wpc (W := fun _ => false) false hm' Tryz.func54 rfl (by kernel_rfl) (Nat.le_of_ble_eq_true rfl) (go_start ?_); generalize hQ : Post Tryz.prog Tryz.f54 _ _ _ _ _ = Q; simp only [stIn, matL, matA, st00, natS])
      simp (disch := omega) only [go_sem, Nat.reduceEqDiff, Nat.reduceBEq, ↓reduceIte, reduceCtorEq]
      rw [← hQ]
      exact post_cell1 (id := 1) (x := .agg [.bool true, natS a.num.natAbs, natS a.den]) (.inl rfl) rfl o_sRat (by simp [upd_app] <;> omega) (by simp [upd_app]) (by simp [upd_app, natS]) (by simp [ldA, partA, g_sRat, s_sRat, AV.cells]) (by simp [AV.pure, AV.pureL, natS_pure])
attribute [go_sem] w_sOne w_sNone w_sZero w_sNeg w_sOpposite
attribute [go_sem] w_sOpposite
set_option maxHeartbeats 1000000 in
theorem w_sSum {m n : Nat} {a b : Rat} (h : m + n ≤ 274877906944) : CW Tryz.prog 55 [rS m a, rS n b] (rS (m + n + 1) (a + b)) := by
  refine cw (by kernel_rfl) (by simp [AV.pure, AV.pureL]) (by simp [AV.pure, AV.pureL]) ?_
  refine callOk_told (x := rS m a) told_rS (by simp) (by simp [AV.pure, AV.pureL]) fun ha => ?_
  refine callOk_told (x := rS n b) told_rS (by simp) (by simp [AV.pure, AV.pureL]) fun hb => ?_
  rw [rS_eq ha, rS_eq hb, rS_eq (fits_add ha hb)]
  have lx := len9 ha.1
  have ld := len9 ha.2
  have ly := len9 hb.1
  have le := len9 hb.2
  have hd0 := den_ne a
  have he0 := den_ne b
  have ea := self_mkRat a
  have eb := self_mkRat b
  have hxe : (enc B9 (a.num.natAbs * b.den)).length ≤ m + n := len9 (mul_lt_pow ha.1 hb.2)
  have hyd : (enc B9 (b.num.natAbs * a.den)).length ≤ m + n := by rw [Nat.add_comm m n]; exact len9 (mul_lt_pow hb.1 ha.2)
  have hde' : (enc B9 (a.den * b.den)).length ≤ m + n := len9 (mul_lt_pow ha.2 hb.2)
  have hsum : (enc B9 (a.num.natAbs * b.den + b.num.natAbs * a.den)).length ≤ m + n + 1 := by
    refine len9 ?_
    have h1 := mul_lt_pow ha.1 hb.2
    have h2 := mul_lt_pow hb.1 ha.2
    rw [Nat.add_comm n m] at h2
    rw [Nat.pow_succ]; omega
  simp only [qd] at ea eb
  obtain ⟨p, hp⟩ : ∃ p, decide (a.num < 0) = p := ⟨_, rfl⟩
  obtain ⟨q, hq⟩ : ∃ p, decide (b.num < 0) = p := ⟨_, rfl⟩
  obtain ⟨v, hv⟩ : ∃ v, qd (a + b) = v := ⟨_, rfl⟩
  have hr : qd a = (p, a.num.natAbs, a.den) ∧ qd b = (q, b.num.natAbs, b.den) := ⟨by rw [← hp]; rfl, by rw [← hq]; rfl⟩
  rw [hv, hr.1, hr.2]
  rw [hp] at ea; rw [hq] at eb
  clear hp hq hr ha hb
  obtain ⟨x, hx⟩ : ∃ x, a.num.natAbs = x := ⟨_, rfl⟩
  obtain ⟨y, hy⟩ : ∃ x, b.num.natAbs = x := ⟨_, rfl⟩
  obtain ⟨d, hd⟩ : ∃ x, a.den = x := ⟨_, rfl⟩
  obtain ⟨e, he⟩ : ∃ x, b.den = x := ⟨_, rfl⟩
  rw [hx, hd] at ea; rw [hy, he] at eb
  rw [hx] at lx hxe hsum; rw [hd] at ld hyd hde' hd0 hsum; rw [hy] at ly hyd hsum; rw [he] at le hxe hde' he0 hsum
  rw [hx, hy, hd, he]
  clear hx hy hd he
  have hne : ∀ {p q : Bool}, p ≠ q → (p == q) = false := by decide
  have m1 := w_sNatMul (a := x) (b := e) (by omega) (by omega)
  have m2 := w_sNatMul (a := y) (b := d) (by omega) (by omega)
  have m3 := w_sNatMul (a := d) (b := e) (by omega) (by omega)
  have hC0 : d * e ≠ 0 := Nat.mul_ne_zero hd0 he0
  rw [scale_mkRat he0] at ea
  rw [scale_mkRat hd0, Nat.mul_comm e d] at eb
  obtain ⟨k1, k2, k3⟩ := add_low hC0 ea eb
  rw [hv] at k1 k2 k3
  clear ea eb hv
  obtain ⟨X, hX⟩ : ∃ z, x * e = z := ⟨_, rfl⟩
  obtain ⟨Y, hY⟩ : ∃ z, y * d = z := ⟨_, rfl⟩
  obtain ⟨C, hC⟩ : ∃ z, d * e = z := ⟨_, rfl⟩
  rw [hX] at m1 k1 k2 k3 hxe hsum; rw [hY] at m2 k1 k2 k3 hyd hsum; rw [hC] at m3 k1 k2 k3 hC0 hde'
  by_cases hpq : p = q
  · subst hpq
    have h1 := w_sNatAdd (a := X) (b := Y) (by omega) (by omega)
    have h2 := w_sMake (b := p) (m := X + Y) (n := C) (by omega) (by omega) hC0
    rw [k1 rfl]
    simp only [natS, ratS] at m1 m2 m3 h1 h2
    (refine callOk_of_wpc (W := fun _ => false) false hm' Tryz.func55 rfl (by kernel_rfl) (Nat.le_of_ble_eq_true rfl) (go_start ?_); generalize hQ : Post Tryz.prog Tryz.f55 _ _ _ _ _ = Q; simp only [stIn, matL, matA, st00, natS,ratS])
    simp (disch := omega) only [go_sem, Nat.reduceEqDiff, Nat.reduceBEq, ↓reduceIte, reduceCtorEq, h1, h2, m1, m2, m3]
    (repeat (with_reducible refine Or.inr ?_))
    rw [← hQ]
    exact post_cell1 (id := 2) (x := ratS (lowQ p (X + Y) C)) (.inl rfl) rfl o_sRat (by simp [upd_app] <;> omega) (by simp [upd_app]) (by simp [upd_app, natS, ratS]) ld_sRat (by simp)
  · have hcx := w_sCmp (a := X) (b := Y) (by omega) (by omega)
    have e1 := hne hpq
    by_cases hxy : Y ≤ X
    · have h1 := w_sNatLess (a := X) (b := Y) (by omega) hxy
      have h2 := w_sMake (b := p) (m := X - Y) (n := C) (Nat.le_trans (enc_len_mono B9_gt (Nat.sub_le X Y)) (by omega)) (by omega) hC0
      have hc0 : 0 ≤ cmpI X Y := cmpI_ge hxy
      rw [k2 hpq hxy]
      simp only [natS, ratS] at m1 m2 m3 hcx h1 h2
      (refine callOk_of_wpc (W := fun _ => false) false hm' Tryz.func55 rfl (by kernel_rfl) (Nat.le_of_ble_eq_true rfl) (go_start ?_); generalize hQ : Post Tryz.prog Tryz.f55 _ _ _ _ _ = Q; simp only [stIn, matL, matA, st00, natS,ratS])
      simp (disch := omega) only [go_sem, Nat.reduceEqDiff, Nat.reduceBEq, ↓reduceIte, reduceCtorEq, h1, h2, hcx, e1, m1, m2, m3]
      (repeat (with_reducible refine Or.inr ?_))
      rw [← hQ]
      exact post_cell1 (id := 2) (x := ratS (lowQ p (X - Y) C)) (.inl rfl) rfl o_sRat (by simp [upd_app] <;> omega) (by simp [upd_app]) (by simp [upd_app, natS, ratS]) ld_sRat (by simp)
    · have h1 := w_sNatLess (a := Y) (b := X) (by omega) (by omega)
      have h2 := w_sMake (b := q) (m := Y - X) (n := C) (Nat.le_trans (enc_len_mono B9_gt (Nat.sub_le Y X)) (by omega)) (by omega) hC0
      have hc0 : cmpI X Y < 0 := by rw [cmpI_lt (by omega)]; omega
      rw [k3 hpq (by omega)]
      simp only [natS, ratS] at m1 m2 m3 hcx h1 h2
      (refine callOk_of_wpc (W := fun _ => false) false hm' Tryz.func55 rfl (by kernel_rfl) (Nat.le_of_ble_eq_true rfl) (go_start ?_); generalize hQ : Post Tryz.prog Tryz.f55 _ _ _ _ _ = Q; simp only [stIn, matL, matA, st00, natS,ratS])
      simp (disch := omega) only [go_sem, Nat.reduceEqDiff, Nat.reduceBEq, ↓reduceIte, reduceCtorEq, h1, h2, hcx, e1, m1, m2, m3]
      (repeat (with_reducible refine Or.inr ?_))
      rw [← hQ]
      exact post_cell1 (id := 2) (x := ratS (lowQ q (Y - X) C)) (.inl rfl) rfl o_sRat (by simp [upd_app] <;> omega) (by simp [upd_app]) (by simp [upd_app, natS, ratS]) ld_sRat (by simp)
attribute [go_sem] w_sSum
attribute [go_sem] w_sSum
theorem w_sMinus {m n : Nat} {a b : Rat} (h : m + n ≤ 274877906944) : CW Tryz.prog 39 [rS m a, rS n b] (rS (m + n + 1) (a - b)) := by
 refine cw (by kernel_rfl) (by simp [AV.pure, AV.pureL]) (by simp [AV.pure, AV.pureL]) ?_
 rw [Rat.sub_eq_add_neg]
 (refine callOk_of_wpc (W := fun _ => false) false hm' Tryz.func39 rfl (by kernel_rfl) (Nat.le_of_ble_eq_true rfl) (go_start ?_); generalize hQ : Post Tryz.prog Tryz.f39 _ _ _ _ _ = Q; simp only [stIn, matL, matA, st00])
 simp (disch := omega) only [go_sem, Nat.reduceEqDiff, Nat.reduceBEq, ↓reduceIte, reduceCtorEq]
 (repeat (with_reducible refine Or.inr ?_))
 rw [← hQ]
 exact post_cell1 (id := 2) (x := rS (m + n + 1) (a + -b)) (.inl rfl) rfl o_sRat (by simp [upd_app] <;> omega) (by simp [upd_app]) (by simp [upd_app]) ld_sRat (by simp [AV.pure, AV.pureL])
theorem parts_of {a : Rat} {m : Nat} (ha : fits m a) : ∃ p x d, qd a = (p, x, d) ∧ d ≠ 0 ∧ (a.num ≠ 0 ↔ x ≠ 0) ∧ x < 2 ^ m ∧ d < 2 ^ m ∧ Nat.gcd x d = 1 :=
 ⟨_, _, _, rfl, a.den_nz, by first | omega | (simp only; omega), ha.1, ha.2, a.reduced⟩
attribute [go_sem] w_sMinus
theorem w_sTimes {m n : Nat} {a b : Rat} (h : m + n ≤ 274877906944) : CW Tryz.prog 56 [rS m a, rS n b] (rS (m + n) (a * b)) := by
 refine cw (by kernel_rfl) (by simp [AV.pure, AV.pureL]) (by simp [AV.pure, AV.pureL]) ?_
 refine callOk_told (x := rS m a) told_rS (by simp) (by simp [AV.pure, AV.pureL]) fun ha => ?_
 refine callOk_told (x := rS n b) told_rS (by simp) (by simp [AV.pure, AV.pureL]) fun hb => ?_
 rw [rS_eq ha, rS_eq hb, rS_eq (fits_mul ha hb (fits_pos ha))]
 obtain ⟨p, x, d, ea, hd0, _, hx, hd, _⟩ := parts_of ha
 obtain ⟨q, y, e, eb, he0, _, hy, he, _⟩ := parts_of hb
 rw [mul_low ea eb hd0 he0, ea, eb]
 have m1 := w_sNatMul (a := x) (b := y) (by have := len9 hx; omega) (by have := len9 hy; omega)
 have m2 := w_sNatMul (a := d) (b := e) (by have := len9 hd; omega) (by have := len9 he; omega)
 have h2 := w_sMake (b := p != q) (m := x * y) (n := d * e) (Nat.le_trans (len9 (mul_lt_pow hx hy)) (by omega)) (Nat.le_trans (len9 (mul_lt_pow hd he)) (by omega)) (Nat.mul_ne_zero hd0 he0)
 rw [bne] at h2 ⊢
 simp only [natS, ratS] at m1 m2 h2
 (refine callOk_of_wpc (W := fun _ => false) false hm' Tryz.func56 rfl (by kernel_rfl) (Nat.le_of_ble_eq_true rfl) (go_start ?_); generalize hQ : Post Tryz.prog Tryz.f56 _ _ _ _ _ = Q; simp only [stIn, matL, matA, st00, natS,ratS])
 simp (disch := omega) only [go_sem, Nat.reduceEqDiff, Nat.reduceBEq, ↓reduceIte, reduceCtorEq, h2, m1, m2]
 (repeat (with_reducible refine Or.inr ?_))
 rw [← hQ]
 exact post_cell1 (id := 2) (x := ratS (lowQ (!(p == q)) (x * y) (d * e))) (.inl rfl) rfl o_sRat (by simp [upd_app] <;> omega) (by simp [upd_app]) (by simp [upd_app, natS, ratS]) ld_sRat (by simp)
attribute [go_sem] w_sTimes
theorem w_sOver {m n : Nat} {a b : Rat} (h : m + n ≤ 274877906944) (h0 : b.num ≠ 0) : CW Tryz.prog 91 [rS m a, rS n b] (rS (m + n) (a / b)) := by
 refine cw (by kernel_rfl) (by simp [AV.pure, AV.pureL]) (by simp [AV.pure, AV.pureL]) ?_
 refine callOk_told (x := rS m a) told_rS (by simp) (by simp [AV.pure, AV.pureL]) fun ha => ?_
 refine callOk_told (x := rS n b) told_rS (by simp) (by simp [AV.pure, AV.pureL]) fun hb => ?_
 rw [rS_eq ha, rS_eq hb, rS_eq (fits_over ha hb h0)]
 obtain ⟨p, x, d, ea, hd0, _, hx, hd, _⟩ := parts_of ha
 obtain ⟨q, y, e, eb, he0, hy0, hy, he, _⟩ := parts_of hb
 have hy0 := hy0.1 h0
 rw [over_low ea eb h0, ea, eb]
 have m1 := w_sNatMul (a := x) (b := e) (by have := len9 hx; omega) (by have := len9 he; omega)
 have m2 := w_sNatMul (a := d) (b := y) (by have := len9 hd; omega) (by have := len9 hy; omega)
 have h2 := w_sMake (b := p != q) (m := x * e) (n := d * y) (Nat.le_trans (len9 (mul_lt_pow hx he)) (by omega)) (Nat.le_trans (len9 (mul_lt_pow hd hy)) (by omega)) (Nat.mul_ne_zero hd0 hy0)
 rw [bne] at h2 ⊢
 simp only [natS, ratS] at m1 m2 h2
 (refine callOk_of_wpc (W := fun _ => false) false hm' Tryz.func91 rfl (by kernel_rfl) (Nat.le_of_ble_eq_true rfl) (go_start ?_); generalize hQ : Post Tryz.prog Tryz.f91 _ _ _ _ _ = Q; simp only [stIn, matL, matA, st00, natS,ratS])
 simp (disch := omega) only [go_sem, Nat.reduceEqDiff, Nat.reduceBEq, ↓reduceIte, reduceCtorEq, h2, m1, m2]
 (repeat (with_reducible refine Or.inr ?_))
 rw [← hQ]
 exact post_cell1 (id := 2) (x := ratS (lowQ (!(p == q)) (x * e) (d * y))) (.inl rfl) rfl o_sRat (by simp [upd_app] <;> omega) (by simp [upd_app]) (by simp [upd_app, natS, ratS]) ld_sRat (by simp)
attribute [go_sem] w_sOver
theorem w_sLess {m n : Nat} {a b : Rat} (h : m + n ≤ 274877906944) : CW Tryz.prog 30 [rS m a, rS n b] (.bool (decide (a < b))) := by
  refine cw (by kernel_rfl) (by simp [AV.pure, AV.pureL]) (by simp [AV.pure, AV.pureL]) ?_
  refine callOk_told (x := rS m a) told_rS (by simp) (by simp [AV.pure, AV.pureL]) fun ha => ?_
  refine callOk_told (x := rS n b) told_rS (by simp) (by simp [AV.pure, AV.pureL]) fun hb => ?_
  rw [rS_eq ha, rS_eq hb]
  obtain ⟨p, x, d, ea, hd0, _, hx, hd, _⟩ := parts_of ha
  obtain ⟨q, y, e, eb, he0, _, hy, he, _⟩ := parts_of hb
  obtain ⟨k1, k2, _⟩ := less_of ea eb
  rw [ea, eb]
  have m1 := w_sNatMul (a := x) (b := e) (by have := len9 hx; omega) (by have := len9 he; omega)
  have m2 := w_sNatMul (a := y) (b := d) (by have := len9 hy; omega) (by have := len9 hd; omega)
  have hc := w_sCmp (a := x * e) (b := y * d) (Nat.lt_of_le_of_lt (len9 (mul_lt_pow hx he)) (by omega)) (Nat.lt_of_le_of_lt (len9 (mul_lt_pow hy hd)) (by omega))
  simp only [natS] at m1 m2 hc
  by_cases hpq : p = q
  · subst hpq
    rw [k2 rfl]
    obtain ⟨c, hcc⟩ : ∃ c, cmpI (x * e) (y * d) = c := ⟨_, rfl⟩
    rw [hcc] at hc ⊢
    clear k1 k2
    rcases Int.lt_trichotomy c 0 with h0 | h0 | h0 <;> cases p
    all_goals
      (refine callOk_of_wpc (W := fun _ => false) false hm' Tryz.func30 rfl (by kernel_rfl) (Nat.le_of_ble_eq_true rfl) (go_start ?_); generalize hQ : Post Tryz.prog Tryz.f30 _ _ _ _ _ = Q; simp only [stIn, matL, matA, st00, natS,ratS])
      simp (disch := omega) only [go_sem, Nat.reduceEqDiff, Nat.reduceBEq, ↓reduceIte, reduceCtorEq, m1, m2, hc]
      (repeat (with_reducible refine Or.inr ?_))
      rw [← hQ]
      exact post_one (.inl rfl) rfl (by simp [upd_app] <;> omega) rfl
  · rw [k1 hpq]
    have e1 : (p != q) = true := by cases p <;> cases q <;> simp_all
    have e2 : (p == q) = false := by cases p <;> cases q <;> simp_all
    (refine callOk_of_wpc (W := fun _ => false) false hm' Tryz.func30 rfl (by kernel_rfl) (Nat.le_of_ble_eq_true rfl) (go_start ?_); generalize hQ : Post Tryz.prog Tryz.f30 _ _ _ _ _ = Q; simp only [stIn, matL, matA, st00, natS,ratS])
    simp (disch := omega) only [go_sem, Nat.reduceEqDiff, Nat.reduceBEq, ↓reduceIte, reduceCtorEq, e1, e2]
    (repeat (with_reducible refine Or.inr ?_))
    rw [← hQ]
    exact post_one (.inl rfl) rfl (by simp [upd_app] <;> omega) rfl
attribute [go_sem] w_sLess
theorem sign_ne {a : Rat} (h : a.num ≠ 0) : a.num.sign ≠ 0 := fun e => h (Int.sign_eq_zero_iff_zero.1 e)
set_option maxHeartbeats 1000000 in
theorem w_mul {m n : Nat} {a b : Rat} (h : m + n ≤ 274877906944) : CW Tryz.prog 64 [rI m a, rI n b] (rI (m + n) (a * b)) := by
  refine cw (by kernel_rfl) (by simp [AV.pure, AV.pureL]) (by simp [AV.pure, AV.pureL]) ?_
  refine callOk_told (x := rI m a) told_rI (by simp) (by simp [AV.pure, AV.pureL]) fun ha => ?_
  refine callOk_told (x := rI n b) told_rI (by simp) (by simp [AV.pure, AV.pureL]) fun hb => ?_
  have hsa := w_sign (a := a) (m := m) (by omega)
  have hsb := w_sign (a := b) (m := n) (by omega)
  rw [rI_eq ha] at hsa
  rw [rI_eq hb] at hsb
  obtain ⟨p, x, d, ea, hd0, hx0, hx, hd, hg1⟩ := parts_of ha
  obtain ⟨q, y, e, eb, he0, hy0, hy, he, hg2⟩ := parts_of hb
  have hz := w_whole (n := 0) (by omega) (by omega)
  have hz0 : (((0 : Int) : Rat)) = 0 := rfl
  rw [hz0] at hz
  rw [ea] at hsa; rw [eb] at hsb
  by_cases h0 : a.num = 0 ∨ b.num = 0
  · have e0 : a * b = 0 := by rcases h0 with h0 | h0 <;> rw [num_zero.1 h0] <;> simp
    have f0 : fits (m + n) (0 : Rat) := e0 ▸ fits_mul ha hb (fits_pos ha)
    have f64 : fits 64 (0 : Rat) := fits_int (n := 0) (by decide) (by decide)
    have e1 : rI 64 (0 : Rat) = rI (m + n) 0 := by rw [rI_eq f0, rI_eq f64]
    rw [e1] at hz
    rw [e0, rI_eq ha, rI_eq hb, ea, eb]
    obtain ⟨s, hs⟩ : ∃ s, a.num.sign = s := ⟨_, rfl⟩
    obtain ⟨t, ht⟩ : ∃ s, b.num.sign = s := ⟨_, rfl⟩
    have hst : s = 0 ∨ t = 0 := h0.imp (fun h => by rw [← hs, h]; rfl) (fun h => by rw [← ht, h]; rfl)
    rw [hs] at hsa; rw [ht] at hsb
    simp only [ratI, natI] at hsa hsb
    clear e0 e1 f0 f64 h0 hs ht ea eb hx0 hy0
    by_cases hs0 : s = 0
    · subst hs0
      (refine callOk_of_wpcD (W := ⟨fun _ => false, fun r => if r = 3 then some [(1, 10), (3, 10), (6, 10), (8, 10), (1, 11), (3, 11), (6, 11), (8, 11), (10, 11)] else none⟩) false hm' Tryz.func64 rfl (by kernel_rfl) (Nat.le_of_ble_eq_true rfl) (go_start ?_); generalize hQ : Post Tryz.prog Tryz.f64 _ _ _ _ _ = Q; simp only [stIn, matL, matA, st00, natI,ratI])
      simp (disch := omega) only [go_sem, Nat.reduceEqDiff, Nat.reduceBEq, ↓reduceIte, reduceCtorEq, ↓k_appE, hsa, hsb, hz]
      (repeat (with_reducible refine Or.inr ?_))
      rw [← hQ]
      exact post_cell1 (id := 2) (x := rI (m + n) 0) (.inl rfl) rfl o_iRat (by simp [upd_app] <;> omega) (by simp [upd_app]) (by simp [upd_app]) ld_iRat (by simp [AV.pure, AV.pureL])
    · have : t = 0 := by omega
      subst this
      (refine callOk_of_wpcD (W := ⟨fun _ => false, fun r => if r = 3 then some [(1, 10), (3, 10), (6, 10), (8, 10), (1, 11), (3, 11), (6, 11), (8, 11), (10, 11)] else none⟩) false hm' Tryz.func64 rfl (by kernel_rfl) (Nat.le_of_ble_eq_true rfl) (go_start ?_); generalize hQ : Post Tryz.prog Tryz.f64 _ _ _ _ _ = Q; simp only [stIn, matL, matA, st00, natI,ratI])
      simp (disch := omega) only [go_sem, Nat.reduceEqDiff, Nat.reduceBEq, ↓reduceIte, reduceCtorEq, ↓k_appE, hsa, hsb, hz]
      (repeat (with_reducible refine Or.inr ?_))
      rw [← hQ]
      exact post_cell1 (id := 2) (x := rI (m + n) 0) (.inl rfl) rfl o_iRat (by simp [upd_app] <;> omega) (by simp [upd_app]) (by simp [upd_app]) ld_iRat (by simp [AV.pure, AV.pureL])
  have hs := sign_ne (a := a) (by omega)
  have ht := sign_ne (a := b) (by omega)
  have hxn := hx0.1 (by omega)
  have hyn := hy0.1 (by omega)
  rw [rI_eq (fits_mul ha hb (fits_pos ha)), rI_eq ha, rI_eq hb, mul_low ea eb hd0 he0, cross_low hxn hyn hd0 he0 hg1 hg2, ea, eb]
  generalize a.num.sign = s at hsa hs
  generalize b.num.sign = t at hsb ht
  have lx := len32 hx
  have ld := len32 hd
  have ly := len32 hy
  have le := len32 he
  have l1 := w_low (b := false) (m := x) (n := e) (by omega) (by omega) he0
  have l2 := w_low (b := false) (m := y) (n := d) (by omega) (by omega) hd0
  have k1 := enc_div_len (B := B32) (m := x) (g := Nat.gcd x e) B32_gt
  have k2 := enc_div_len (B := B32) (m := e) (g := Nat.gcd x e) B32_gt
  have k3 := enc_div_len (B := B32) (m := y) (g := Nat.gcd y d) B32_gt
  have k4 := enc_div_len (B := B32) (m := d) (g := Nat.gcd y d) B32_gt
  generalize x / Nat.gcd x e = x' at *
  generalize e / Nat.gcd x e = e' at *
  generalize y / Nat.gcd y d = y' at *
  generalize d / Nat.gcd y d = d' at *
  have m1 := w_natMul (a := x') (b := y') (by omega) (by omega)
  have m2 := w_natMul (a := e') (b := d') (by omega) (by omega)
  rw [Bool.false_and] at l1 l2
  rw [bne]
  simp only [ratI, natI] at hsa hsb l1 l2 m1 m2
  clear k1 k2 k3 k4 lx ld ly le hx hy hd he hx0 hy0 hg1 hg2 ea eb ha hb h0 hz hz0
  (refine callOk_of_wpcD (W := ⟨fun _ => false, fun r => if r = 3 then some [(1, 10), (3, 10), (6, 10), (8, 10), (1, 11), (3, 11), (6, 11), (8, 11), (10, 11)] else none⟩) false hm' Tryz.func64 rfl (by kernel_rfl) (Nat.le_of_ble_eq_true rfl) (go_start ?_); generalize hQ : Post Tryz.prog Tryz.f64 _ _ _ _ _ = Q; simp only [stIn, matL, matA, st00, natI,ratI])
  simp (disch := omega) only [go_sem, Nat.reduceEqDiff, Nat.reduceBEq, ↓reduceIte, reduceCtorEq, ↓k_appE, hsa, hsb, l1, l2, m1, m2]
  (repeat (with_reducible refine Or.inr ?_))
  rw [← hQ]
  exact post_cell1 (id := 2) (x := ratI (!(p == q), x' * y', e' * d')) (.inl rfl) rfl o_iRat (by simp [upd_app] <;> omega) (by simp [upd_app]) (by simp [upd_app, natI, ratI]) ld_iRat (by simp)
attribute [go_sem] w_mul
attribute [go_sem] w_mul
theorem w_over {m n : Nat} {a b : Rat} (h : m + n ≤ 274877906944) (h0 : b.num ≠ 0) : CW Tryz.prog 94 [rI m a, rI n b] (rI (m + n) (a / b)) := by
 refine cw (by kernel_rfl) (by simp [AV.pure, AV.pureL]) (by simp [AV.pure, AV.pureL]) ?_
 refine callOk_told (x := rI n b) told_rI (by simp) (by simp [AV.pure, AV.pureL]) fun hb => ?_
 have hm := w_mul (m := m) (n := n) (a := a) (b := b⁻¹) h
 have e1 : qd b = (decide (b.num < 0), b.num.natAbs, b.den) := rfl
 rw [rI_eq (fits_inv hb h0), qd_inv e1 h0, ← Rat.div_def] at hm
 rw [rI_eq hb, e1]
 simp only [ratI, natI] at hm
 (refine callOk_of_wpc (W := fun _ => false) false hm' Tryz.func94 rfl (by kernel_rfl) (Nat.le_of_ble_eq_true rfl) (go_start ?_); generalize hQ : Post Tryz.prog Tryz.f94 _ _ _ _ _ = Q; simp only [stIn, matL, matA, st00, natI,ratI])
 generalize decide (b.num < 0) = q at *
 simp (disch := omega) only [go_sem, Nat.reduceEqDiff, Nat.reduceBEq, ↓reduceIte, reduceCtorEq, hm]
 (repeat (with_reducible refine Or.inr ?_))
 rw [← hQ]
 exact post_cell1 (id := 2) (x := rI (m + n) (a / b)) (.inl rfl) rfl o_iRat (by simp [upd_app] <;> omega) (by simp [upd_app]) (by simp [upd_app]) ld_iRat (by simp [AV.pure, AV.pureL])
def cmpR (a b : Rat) : Int := cmpQ (qd a) (qd b)
theorem cmpR_lt {a b : Rat} : cmpR a b < 0 ↔ a < b := (cmp_lt a b).1
theorem cmpR_eq {a b : Rat} : cmpR a b = 0 ↔ a = b := (cmp_lt a b).2
theorem cmpR_gt {a b : Rat} : 0 < cmpR a b ↔ b < a := by
  have h1 := cmpR_lt (a := a) (b := b)
  have h2 := cmpR_eq (a := a) (b := b)
  constructor
  · intro h
    rcases Classical.em (b < a) with h' | h'
    · exact h'
    · have := Rat.not_lt.1 h'
      rcases Rat.le_iff_lt_or_eq.1 this with h3 | h3
      · have := h1.2 h3; omega
      · have := h2.2 h3; omega
  · intro h
    have n1 : ¬ cmpR a b < 0 := fun h' => Rat.not_lt.2 (Rat.le_of_lt h) (h1.1 h')
    have n2 : ¬ cmpR a b = 0 := fun h' => by rw [h2.1 h'] at h; exact Rat.lt_irrefl h
    omega
attribute [go_sem] w_over
theorem w_cmp {m n : Nat} {a b : Rat} (h : m + n ≤ 274877906944) : CW Tryz.prog 35 [rI m a, rI n b] (.int .i64 (cmpR a b)) := by
  refine cw (by kernel_rfl) (by simp [AV.pure, AV.pureL]) (by simp [AV.pure, AV.pureL]) ?_
  refine callOk_told (x := rI m a) told_rI (by simp) (by simp [AV.pure, AV.pureL]) fun ha => ?_
  refine callOk_told (x := rI n b) told_rI (by simp) (by simp [AV.pure, AV.pureL]) fun hb => ?_
  have hsa := w_sign (a := a) (m := m) (by omega)
  have hsb := w_sign (a := b) (m := n) (by omega)
  rw [rI_eq ha] at hsa
  rw [rI_eq hb] at hsb
  have e1 := sgnQ_qd a
  have e2 := sgnQ_qd b
  obtain ⟨p, x, d, ea, hd0, hx0, hx, hd, hg1⟩ := parts_of ha
  obtain ⟨q, y, e, eb, he0, hy0, hy, he, hg2⟩ := parts_of hb
  have b1 : a.num.sign = -1 ∨ a.num.sign = 0 ∨ a.num.sign = 1 := by rcases Int.lt_trichotomy a.num 0 with h | h | h <;> simp [h, Int.sign_eq_neg_one_of_neg, Int.sign_eq_one_of_pos]
  have b2 : b.num.sign = -1 ∨ b.num.sign = 0 ∨ b.num.sign = 1 := by rcases Int.lt_trichotomy b.num 0 with h | h | h <;> simp [h, Int.sign_eq_neg_one_of_neg, Int.sign_eq_one_of_pos]
  rw [ea] at hsa e1; rw [eb] at hsb e2
  rw [cmpR, cmpQ, rI_eq ha, rI_eq hb, ea, eb, e1, e2]
  generalize a.num.sign = s at *
  generalize b.num.sign = t at *
  have m1 := w_natMul (a := x) (b := e) (by have := len32 hx; omega) (by have := len32 he; omega)
  have m2 := w_natMul (a := y) (b := d) (by have := len32 hy; omega) (by have := len32 hd; omega)
  have hc := w_natCmp (a := x * e) (b := y * d) (Nat.lt_of_le_of_lt (len32 (mul_lt_pow hx he)) (by omega)) (Nat.lt_of_le_of_lt (len32 (mul_lt_pow hy hd)) (by omega))
  have hn : cmpN (x * e) (y * d) = cmpI (x * e) (y * d) := by simp [cmpI, cmpN]
  have b3 : cmpI (x * e) (y * d) = -1 ∨ cmpI (x * e) (y * d) = 0 ∨ cmpI (x * e) (y * d) = 1 := by
    rcases Nat.lt_trichotomy (x * e) (y * d) with h | h | h
    · left; exact cmpI_lt h
    · right; left; rw [h]; exact cmpI_eq _
    · right; right; exact cmpI_gt h
  simp only [hn]
  generalize cmpI (x * e) (y * d) = c at *
  simp only [ratI, natI] at hsa hsb m1 m2 hc
  clear hn hx hy hd he hx0 hy0 hg1 hg2 ea eb ha hb hd0 he0 e1 e2
  by_cases hst : s = t
  · subst hst
    rw [if_neg (by simp)]
    cases p
    · rw [if_neg (by simp)]
      (refine callOk_of_wpc (W := fun _ => false) false hm' Tryz.func35 rfl (by kernel_rfl) (Nat.le_of_ble_eq_true rfl) (go_start ?_); generalize hQ : Post Tryz.prog Tryz.f35 _ _ _ _ _ = Q; simp only [stIn, matL, matA, st00, natI,ratI])
      simp (disch := omega) only [go_sem, Nat.reduceEqDiff, Nat.reduceBEq, ↓reduceIte, reduceCtorEq, hsa, hsb, m1, m2, hc]
      (repeat (with_reducible refine Or.inr ?_))
      rw [← hQ]
      exact post_one (.inl rfl) rfl (by simp [upd_app] <;> omega) rfl
    · rw [if_pos rfl]
      (refine callOk_of_wpc (W := fun _ => false) false hm' Tryz.func35 rfl (by kernel_rfl) (Nat.le_of_ble_eq_true rfl) (go_start ?_); generalize hQ : Post Tryz.prog Tryz.f35 _ _ _ _ _ = Q; simp only [stIn, matL, matA, st00, natI,ratI])
      simp (disch := omega) only [go_sem, Nat.reduceEqDiff, Nat.reduceBEq, ↓reduceIte, reduceCtorEq, hsa, hsb, m1, m2, hc]
      (repeat (with_reducible refine Or.inr ?_))
      rw [← hQ]
      exact post_one (.inl rfl) rfl (by simp [upd_app]) rfl
  · rw [if_pos hst]
    (refine callOk_of_wpc (W := fun _ => false) false hm' Tryz.func35 rfl (by kernel_rfl) (Nat.le_of_ble_eq_true rfl) (go_start ?_); generalize hQ : Post Tryz.prog Tryz.f35 _ _ _ _ _ = Q; simp only [stIn, matL, matA, st00, natI,ratI])
    simp (disch := omega) only [go_sem, Nat.reduceEqDiff, Nat.reduceBEq, ↓reduceIte, reduceCtorEq, hsa, hsb]
    (repeat (with_reducible refine Or.inr ?_))
    rw [← hQ]
    exact post_one (.inl rfl) rfl (by simp [upd_app]) rfl
attribute [go_sem] w_over w_cmp
attribute [go_sem] w_cmp
theorem w_isMinus {m : Nat} {a : Rat} (h : m ≤ 274877906944) : CW Tryz.prog 46 [rI m a] (.bool (decide (a < 0))) := by
  refine cw (by kernel_rfl) (by simp [AV.pure, AV.pureL]) (by simp [AV.pure, AV.pureL]) ?_
  rw [← num_neg]
  have b1 : decide (a.num < 0) = decide (a.num.sign < 0) := by
    rcases Int.lt_trichotomy a.num 0 with h | h | h
    · rw [Int.sign_eq_neg_one_of_neg h]; simp [h]
    · rw [h]; rfl
    · rw [Int.sign_eq_one_of_pos h]; exact decide_eq_decide.2 (by omega)
  have hsa := w_sign (a := a) (m := m) (by omega)
  simp only [rI] at hsa
  rw [b1]
  rw [b1] at hsa
  generalize decide (a.num.sign < 0) = p at *
  (refine callOk_of_wpc (W := fun _ => false) false hm' Tryz.func46 rfl (by kernel_rfl) (Nat.le_of_ble_eq_true rfl) (go_start ?_); generalize hQ : Post Tryz.prog Tryz.f46 _ _ _ _ _ = Q; simp only [stIn, matL, matA, st00])
  simp (disch := omega) only [go_sem, Nat.reduceEqDiff, Nat.reduceBEq, ↓reduceIte, reduceCtorEq, hsa]
  (repeat (with_reducible refine Or.inr ?_))
  rw [← hQ]
  exact post_one (.inl rfl) rfl (by simp [upd_app] <;> omega) rfl
attribute [go_sem] w_isMinus
attribute [go_sem] int_cast_0 int_cast_1
def sumL (qs : List Rat) : Rat := qs.foldl (· + ·) 0
theorem sumL_snoc {qs : List Rat} {q : Rat} : sumL (qs ++ [q]) = sumL qs + q := by simp [sumL]
theorem sumL_take {qs : List Rat} {i : Nat} {q : Rat} (h : qs[i]? = some q) : sumL (qs.take (i + 1)) = sumL (qs.take i) + q := by rw [List.take_add_one, h]; exact sumL_snoc
theorem c_sum {m : Nat} {qs : List Rat} (hm : m ≤ 100000) (hl : qs.length ≤ 1000) : CallOk Tryz.prog 47 [lI m qs] (rI (64 + qs.length * (m + 1)) (sumL qs)) [] := by
  obtain ⟨n, hn⟩ : ∃ n, qs.length = n := ⟨_, rfl⟩
  rw [hn] at hl ⊢
  (refine callOk_of_wpc (W := fun _ => false) false hm' Tryz.func47 rfl (by kernel_rfl) (Nat.le_of_ble_eq_true rfl) (go_start ?_); generalize hQ : Post Tryz.prog Tryz.f47 _ _ _ _ _ = Q; simp only [stIn, matL, matA, st00])
  simp (disch := omega) only [go_sem, Nat.reduceEqDiff, Nat.reduceBEq, ↓reduceIte, reduceCtorEq, hn]
  (repeat (with_reducible refine Or.inr ?_))
  refine k_loop (fun (i : Nat) st => st.fr 0 = lI m qs ∧ st.fr 2 = .ptr 0 1 0 0 ∧ st.fr 3 = .ptr 1 1 0 0 ∧ st.fr 7 = lI m qs ∧ st.fr 8 = .int .i64 n ∧ st.fr 9 = .int .i64 i ∧ st.h 0 = ⟨53, [.agg [.bool false, .nil, .nil]], true, false, true⟩ ∧ st.h 1 = ⟨53, [rI (64 + i * (m + 1)) (sumL (qs.take i))], true, false, true⟩ ∧ 1 < st.nx ∧ (i ≤ n)) (fun (i : Nat) => n - i) (0)
    ⟨(by simp [upd_app, sumL] <;> omega), (by simp [upd_app, sumL] <;> omega), (by simp [upd_app, sumL] <;> omega), (by simp [upd_app, sumL] <;> omega), (by simp [upd_app, sumL] <;> omega), (by simp [upd_app, sumL] <;> omega), (by simp [upd_app, sumL] <;> omega), (by simp [upd_app, sumL] <;> omega), (by simp <;> omega), by omega⟩ ?_
  rintro i ⟨fr, h, nx⟩ ⟨g0, g2, g3, g7, g8, g9, hm0, hm1, hnx, hi⟩ J hJ
  simp only at g0 g2 g3 g7 g8 g9 hm0 hm1 hnx
  by_cases hin : i < n
  · obtain ⟨q, hq⟩ := get_some (xs := qs) (i := i) (by omega)
    have hb : i * (m + 1) ≤ 1000 * 100001 := Nat.mul_le_mul (by omega) (by omega)
    have e : 64 + (i + 1) * (m + 1) = 64 + i * (m + 1) + m + 1 := by rw [Nat.add_mul]; omega
    have key := hJ (i + 1)
    rw [sumL_take hq, e] at key
    simp (disch := omega) only [go_sem, Nat.reduceEqDiff, Nat.reduceBEq, ↓reduceIte, reduceCtorEq, g0, g2, g3, g7, g8, g9, hm0, hm1, hq, hn]
    (repeat (with_reducible refine Or.inr ?_))
    exact key _ ⟨(by simp [upd_app, g0] <;> omega), (by simp [upd_app, g2] <;> omega), (by simp [upd_app, g3] <;> omega), (by simp [upd_app, g7] <;> omega), (by simp [upd_app, g8] <;> omega), (by simp [upd_app] <;> omega), (by simp [upd_app, hm0] <;> omega), (by simp [upd_app] <;> omega), (by simp <;> omega), hin⟩ (by omega)
  · obtain rfl : i = n := by omega
    rw [List.take_of_length_le (by omega)] at hm1
    simp (disch := omega) only [go_sem, Nat.reduceEqDiff, Nat.reduceBEq, ↓reduceIte, reduceCtorEq, g0, g2, g3, g7, g8, g9, hm0, hm1, hn]
    (repeat (with_reducible refine Or.inr ?_))
    rw [← hQ]
    exact post_cell1 (id := 0) (x := rI (64 + i * (m + 1)) (sumL qs)) (.inl rfl) rfl o_iRat (by simp [upd_app, g2] <;> omega) (by simp [upd_app]) (by simp [upd_app]) ld_iRat (by simp [AV.pure, AV.pureL])
attribute [go_sem] w_isMinus
theorem w_sum {m : Nat} {qs : List Rat} (hm : m ≤ 100000) (hl : qs.length ≤ 1000) : CW Tryz.prog 47 [lI m qs] (rI (64 + qs.length * (m + 1)) (sumL qs)) :=
 cw (by kernel_rfl) (by simp [AV.pure, AV.pureL]) (by simp [AV.pure, AV.pureL]) (c_sum hm hl)
attribute [go_sem] w_sum
mutual
theorem rep_cut {P : Program} {E E' : Env} {h : Nat → Blk} {nx : Nat} (hE : E.nx = nx) (hh : ∀ i, i < nx → E'.h i = h i) : ∀ (x : AV) (v0 v : Value), rep P E x v0 → rep P E' x v → rep P ⟨E'.w, E'.I, E'.m, h, nx⟩ x v
 | .undef, _, _, _, _ => by simp [rep]
 | .bool b, _, v, _, k => by simpa [rep] using k
 | .int i n, _, v, _, k => by simpa [rep] using k
 | .str s, _, v, _, k => by simpa [rep] using k
 | .nil, _, v, _, k => by simpa [rep] using k
 | .sl t xs sp ex, v0, v, k0, k => by
  simp only [rep] at k0 k ⊢
  obtain ⟨_, _, _, _, _, _, ws, us', m4, m5, _⟩ := k0
  obtain ⟨a, cap, h1, h2, h3, h7, vs, us, h4, h5, h6⟩ := k
  exact ⟨a, cap, h1, h2, h3, h7, vs, us, repL_cut hE hh xs ws vs m4 h4, repL_cut hE hh sp us' us m5 h5, h6⟩
 | .ref id n off len, v0, v, k0, k => by
  simp only [rep] at k0 k ⊢
  have hlt : id < nx := by rw [← hE]; exact k0.1
  obtain ⟨_, h2, h3⟩ := k
  rw [hh id hlt] at h2 h3
  exact ⟨hlt, h2, h3⟩
 | .own .., _, _, _, k => by simp [rep] at k
 | .ptr id n i j, v0, v, k0, k => by
  simp only [rep] at k0 k ⊢
  have hlt : id < nx := by rw [← hE]; exact k0.1
  obtain ⟨_, h2, h3⟩ := k
  rw [hh id hlt] at h2 h3
  exact ⟨hlt, h2, h3⟩
 | .cptr t x j, v0, v, k0, k => by
  simp only [rep] at k0 k ⊢
  obtain ⟨_, _, _, _, u0, _, _, _, m4, _⟩ := k0
  obtain ⟨b, off, c, fz, u, h1, h2, h3, h4, h6, h5⟩ := k
  exact ⟨b, off, c, fz, u, h1, h2, h3, rep_cut hE hh x u0 u m4 h4, h6, h5⟩
 | .fn f first cap, v0, v, k0, k => by
  simp only [rep] at k0 k ⊢
  obtain ⟨ws, us', _, m2, m3⟩ := k0
  obtain ⟨vs, us, h1, h2, h3⟩ := k
  exact ⟨vs, us, h1, repL_cut hE hh first ws vs m2 h2, repL_cut hE hh cap us' us m3 h3⟩
 | .agg cs, v0, v, k0, k => by
  simp only [rep] at k0 k ⊢
  obtain ⟨ws, _, m2⟩ := k0
  obtain ⟨vs, h1, h2⟩ := k
  exact ⟨vs, h1, repL_cut hE hh cs ws vs m2 h2⟩
 | .tup xs, v0, v, k0, k => by
  simp only [rep] at k0 k ⊢
  obtain ⟨ws, _, m2⟩ := k0
  obtain ⟨vs, h1, h2⟩ := k
  exact ⟨vs, h1, repL_cut hE hh xs ws vs m2 h2⟩
theorem repL_cut {P : Program} {E E' : Env} {h : Nat → Blk} {nx : Nat} (hE : E.nx = nx) (hh : ∀ i, i < nx → E'.h i = h i) : ∀ (xs : List AV) (vs0 vs : List Value), repL P E xs vs0 → repL P E' xs vs → repL P ⟨E'.w, E'.I, E'.m, h, nx⟩ xs vs
 | [], _, vs, _, k => by simpa [repL] using k
 | x :: xs, vs0, vs, k0, k => by
  simp only [repL] at k0 k ⊢
  obtain ⟨v0, us0, _, m2, m3⟩ := k0
  obtain ⟨v, us, h1, h2, h3⟩ := k
  exact ⟨v, us, h1, rep_cut hE hh x v0 v m2 h2, repL_cut hE hh xs us0 us m3 h3⟩
end
def PostF (P : Program) (fn : Func) (x : AV) (h : Nat → Blk) (nx : Nat) (e : Ex) (st : St) : Prop :=
 (match e with | .exit _ => False | _ => True) ∧ resV P st fn.results.toList = some x ∧ (∀ i, i < nx → st.h i = h i) ∧ nx ≤ st.nx
theorem inOkF_of_wpc {P : Program} {W : WP} {f : FuncId} {fn : Func} {c : Code} {args : List AV} {x : AV} {fr : Nat → AV} {h : Nat → Blk} {nx : Nat} (hm : P.follows .mixedOrders = true) (hf : P.funcs[f]? = some fn) (hb : fn.body = some c)
    (hok : codeOk W fn.ntmps c = true) (hn : args.length ≤ fn.ntmps) (hp : x.pure = true) (hw : wpc P W c ⟨fun i => args.getD i .undef, h, nx⟩ (PostF P fn x h nx)) : InOk P ⟨fr, h, nx⟩ f args x ⟨fr, h, nx⟩ := by
  refine ⟨rfl, fun E vs hE hh hnx has => ?_⟩
  simp only at hh hnx
  have hargl : args.length = vs.length := (repL_length has).symm
  refine calls_of_wp hf hb ?_
  have hR : Rel P E ⟨fun i => args.getD i .undef, h, nx⟩ { tmps := vs.toArray ++ Array.replicate (fn.ntmps - vs.toArray.size) undef, defers := [] } := by
    refine ⟨hE, hh, hnx, fun t => ?_⟩
    by_cases ht : t < args.length
    · have h1 : args[t]? = some (args[t]'(by omega)) := List.getElem?_eq_getElem (by omega)
      obtain ⟨v, hv, hr⟩ := repL_get has t _ h1
      simp only [List.getD_eq_getElem?_getD, h1]
      rw [Array.getD_eq_getD_getElem?, Array.getElem?_append_left (by simp; omega)]
      have : vs.toArray[t]? = some v := by simpa using hv
      rw [this]; exact hr
    · simp only [List.getD_eq_getElem?_getD]
      rw [List.getElem?_eq_none (by omega)]
      simp [rep]
  have hsize : (vs.toArray ++ Array.replicate (fn.ntmps - vs.toArray.size) undef).size = fn.ntmps := by simp; omega
  refine wp_mono (wpc_sound hm c hok _ _ _ E hw hR hsize rfl) fun e a' w' hq => ?_
  obtain ⟨y, st', E', rfl, ⟨hy, hv, h1, h2⟩, rfl, hR', hn', hd', hle, hgo⟩ := hq
  obtain ⟨u, hres, hru⟩ := resV_sound hR' hv
  have hold : ∀ i, i < nx → E'.h i = h i := fun i hi => by rw [← hR'.h]; exact h1 i hi
  obtain ⟨E2, hE2⟩ : ∃ E2 : Env, E2 = ⟨E'.w, E'.I, E'.m, h, nx⟩ := ⟨_, rfl⟩
  have hmm : ∀ id, (h id).lv = true → id < nx ∧ E'.m id = E.m id := by
    intro id hl
    have hB := hE.blk id (by rw [← hh]; exact hl)
    have hlt : id < nx := by rw [hnx]; exact hB.lt
    have e1 : E'.h id = E.h id := by rw [hold id hlt, hh]
    obtain ⟨_, _, _, k4⟩ := hle.prv id (by rw [← hnx]; exact hlt) (E.h id).xs.length (Nat.le_refl _) (by rw [e1, ← hh]; exact hl) (by rw [e1])
    exact ⟨hlt, k4⟩
  have hLe : E.Le E2 := by
    rw [hE2]
    refine ⟨by rw [hnx]; exact Nat.le_refl _, hle.imm, fun id _ => by rw [hh]; exact Nat.le_refl _, fun id hid n hn k1 k2 => ?_⟩
    simp only at k1 k2 ⊢
    rw [hh] at k1 k2 ⊢
    exact ⟨k1, k2, rfl, (hmm id (by rw [hh]; exact k1)).2⟩
  have hOk : Ok P E2 := by
    rw [hE2]
    refine ⟨fun id hl => ?_, fun i j hi hj e => ?_, hR'.ok.imm, hR'.ok.tab⟩
    · simp only at hl
      obtain ⟨hlt, hm1⟩ := hmm id hl
      have e1 := hold id hlt
      have hB := hR'.ok.blk id (by rw [e1]; exact hl)
      have hB0 := hE.blk id (by rw [← hh]; exact hl)
      obtain ⟨c, ws, g1, g2, g3, g4⟩ := hB.at_
      obtain ⟨c0, ws0, _, g02, _, _⟩ := hB0.at_
      rw [e1] at g1 g2 g3 g4
      rw [← hh] at g02
      exact ⟨hlt, by have := hB.gr; rw [e1] at this; exact this, by have := hB.ex; rw [e1] at this; exact this, by have := hB.le; rw [e1] at this; exact this, by have := hB.cl; rw [e1] at this; exact this, hB.dark,
        c, ws, g1, repL_cut hnx.symm hold _ ws0 ws g02 g2, g3, g4⟩
    · simp only at hi hj e
      exact hR'.ok.inj i j (by rw [hold i (hmm i hi).1]; exact hi) (by rw [hold j (hmm j hj).1]; exact hj) e
  have hGo : Goes P E E2 := by
    rw [hE2]
    refine ⟨hgo.os, hgo.tape, hgo.output, hgo.size, hgo.keep, hgo.part, fun id hl => ?_, hgo.dark, by rw [hnx]; exact Nat.le_refl _, fun id hid => by rw [hh]⟩
    simp only at hl ⊢
    obtain ⟨hlt, hm1⟩ := hmm id hl
    exact .inl ⟨by rw [← hh]; exact hl, hm1, by rw [hh], by simp only [Env.lim, hm1, hh]⟩
  have hru2 : rep P E2 x u := by
    rw [hE2]
    exact (show repL P ⟨E'.w, E'.I, E'.m, h, nx⟩ [x] [u] from repL_pure (E := E') (E' := ⟨E'.w, E'.I, E'.m, h, nx⟩) (fun b hb => ⟨hb, rfl⟩) [x] [u] (by simp [AV.pureL, hp]) (by simp [repL, hru])) |> fun k => by simpa [repL] using k
  have hend : bodyPost P fn (fun e w' => ∃ v E', e = .returned v ∧ E'.w = w' ∧ E'.h = h ∧ E'.nx = nx ∧ E.Le E' ∧ Ok P E' ∧ Goes P E E' ∧ rep P E' x v) .ret a' E'.w :=
    ⟨hd', u, hres, u, E2, rfl, by rw [hE2], by rw [hE2], by rw [hE2], hLe, hOk, hGo, hru2⟩
  cases y with
  | normal => exact hend
  | ret => exact hend
  | exit i => exact hy.elim
abbrev CP (P : Program) (g : FuncId) (T : Nat) (v : AV) (al : List AV) (r : AV) : Prop :=
 ∀ (fr : Nat → AV) (h : Nat → Blk) (nx id : Nat), h id = ⟨T, [v], true, false, true⟩ → id < nx → InOk P ⟨fr, h, nx⟩ g (.ptr id 1 0 0 :: al) r ⟨fr, h, nx⟩
abbrev CPE (P : Program) (g : FuncId) (T : Nat) (v : AV) (al : List AV) (r : AV) : Prop :=
 ∀ (W : FuncId → Bool) (d : Option Tmp) (ops : Array Oper) (os : List Oper) (fr : Nat → AV) (h : Nat → Blk) (nx id : Nat) (K : St → Prop) (t : TokC ⟨d, ops, os, fr, h, nx, K⟩), h id = ⟨T, [v], true, false, true⟩ → id < nx →
  callW P W g (.ptr id 1 0 0 :: al) ⟨d, ops, os, fr, h, nx, K⟩ t = (Hid (callW P W g (.ptr id 1 0 0 :: al) ⟨d, ops, os, fr, h, nx, K⟩ .mk) .mk ∨ wpos P W ops os (St.put ⟨fr, h, nx⟩ d r) K)
theorem cpe {P : Program} {g : FuncId} {T : Nat} {v : AV} {al : List AV} {r : AV} (hc : CP P g T v al r) (hg : callable P g = true) : CPE P g T v al r := by
 intro W d ops os fr h nx id K t h1 h2
 cases t
 exact orHid fun hk => ⟨hg, r, ⟨fr, h, nx⟩, hc fr h nx id h1 h2, fun _ => ⟨rfl, rfl⟩, fun _ hp => by simp [AV.pureL, AV.pure] at hp, hk⟩
theorem postF_cell {P : Program} {fn : Func} {t u : Tmp} {T id : Nat} {x r s : AV} {st : St} {e : Ex} {h : Nat → Blk} {nx : Nat} (he : e = .ret ∨ e = .normal) (hr : fn.results.toList = [.cell t T, .tmp u]) (hok : okT P T = true) (hv : st.fr t = .ptr id 1 0 0) (hlv : (st.h id).lv = true) (hx : (st.h id).xs = [x])
  (hl : ldA P T x 0 = some r) (hw : st.fr u = s) (h1 : ∀ i, i < nx → st.h i = h i) (h2 : nx ≤ st.nx) : PostF P fn (.tup [r, s]) h nx e st :=
 ⟨by rcases he with rfl | rfl <;> trivial, by rw [hr]; simp [resV, resL, resA, hv, hw, hok, loadA, hlv, hx, hl], h1, h2⟩
theorem postF_cell1 {P : Program} {fn : Func} {t : Tmp} {T id : Nat} {x r : AV} {st : St} {e : Ex} {h : Nat → Blk} {nx : Nat} (he : e = .ret ∨ e = .normal) (hr : fn.results.toList = [.cell t T]) (hok : okT P T = true) (hv : st.fr t = .ptr id 1 0 0) (hlv : (st.h id).lv = true) (hx : (st.h id).xs = [x])
  (hl : ldA P T x 0 = some r) (h1 : ∀ i, i < nx → st.h i = h i) (h2 : nx ≤ st.nx) : PostF P fn r h nx e st :=
 ⟨by rcases he with rfl | rfl <;> trivial, by rw [hr]; simp [resV, resL, resA, hv, hok, loadA, hlv, hx, hl], h1, h2⟩
theorem x_nilCheck {P : Program} {W : FuncId → Bool} {ops : Array Oper} {os : List Oper} {fr : Nat → AV} {h : Nat → Blk} {nx : Nat} {K : St → Prop} {d t : Nat} {p : String} {af : Array Edge} {x : Operand} : wpos P W ops (⟨some d, .nilCheck x, t, p, af, none⟩ :: os) ⟨fr, h, nx⟩ K = match evA fr x with
  | .ptr id n i j => wpos P W ops os ⟨upd fr d (.ptr id n i j), h, nx⟩ K
  | .cptr t v j => wpos P W ops os ⟨upd fr d (.cptr t v j), h, nx⟩ K
  | _ => False := by
 rw [x_plain (by intros; simp)]; simp only [evalOp, ev_mk]; cases evA fr x <;> rfl
attribute [go_sem ↓] x_nilCheck
def parseR (s : List UInt8) : Option Rat := (parseQ s).map fun t => mkRat (sg t.1 t.2.1) t.2.2
theorem dval_ten {s : List UInt8} (h : ∀ c ∈ s, isDig c = true) : dval s < 10 ^ s.length := by
 have hl : ∀ (l : List UInt8), (∀ c ∈ l, isDig c = true) → dval l < 10 ^ l.length := by
  intro l
  induction l with
  | nil => intro _; simp [dval]
  | cons c l ih =>
   intro h
   have h1 := dval_append [c] l
   have h2 : dval [c] = c.toNat - 48 := by simp [dval]
   have h3 := h c (by simp)
   simp only [isDig, Bool.and_eq_true, decide_eq_true_eq] at h3
   have h4 := ih (fun d hd => h d (by simp [hd]))
   simp only [List.singleton_append] at h1
   rw [h1, h2, List.length_cons, Nat.pow_succ]
   have : (c.toNat - 48) * 10 ^ l.length ≤ 9 * 10 ^ l.length := Nat.mul_le_mul_right _ (by omega)
   omega
 exact hl s h
theorem ten_pow {k j n : Nat} (h1 : k ≤ 3 * j) (h2 : 10 * j < n) : 10 ^ k < 2 ^ n := by
 have h3 : 10 ^ k ≤ 10 ^ (3 * j) := Nat.pow_le_pow_right (by decide) h1
 have h4 : (10 ^ 3) ^ j ≤ (2 ^ 10) ^ j := Nat.pow_le_pow_left (by decide) j
 rw [← Nat.pow_mul, ← Nat.pow_mul] at h4
 exact Nat.lt_of_le_of_lt (Nat.le_trans h3 h4) (Nat.pow_lt_pow_right (by decide) h2)
theorem one_pow {n : Nat} (h : n ≠ 0) : 1 < 2 ^ n := Nat.one_lt_two_pow h
theorem ten_two {k : Nat} (h : k ≤ 200) : 10 ^ k < 2 ^ 700 := ten_pow (j := 67) (n := 700) (by omega) (by omega)
theorem parse_parts {s : List UInt8} {b : Bool} {m n : Nat} (h : parseQ s = some (b, m, n)) : n ≠ 0 ∧ (b = true → m ≠ 0) ∧ Nat.gcd m n = 1 ∧ m < 2 ^ 700 ∧ n < 2 ^ 700 := by
  unfold parseQ at h
  split at h
  · rename_i hc
    obtain ⟨h1, h2⟩ := hc
    obtain ⟨_, hl, hd⟩ := tok_len h1
    have hm := Nat.lt_trans (dval_ten hd) (ten_two hl)
    split at h
    · simp only [Option.some.injEq, Prod.mk.injEq] at h
      obtain ⟨rfl, rfl, rfl⟩ := h
      exact ⟨by decide, fun hb h0 => h2 ⟨hb, h0⟩, Nat.gcd_one_right _, hm, one_pow (n := 700) (by decide)⟩
    · split at h
      · rename_i i _ hc2
        obtain ⟨k1, k2, k3⟩ := hc2
        obtain ⟨_, hl2, hd2⟩ := tok_len k1
        simp only [Option.some.injEq, Prod.mk.injEq] at h
        obtain ⟨rfl, rfl, rfl⟩ := h
        exact ⟨by omega, fun hb h0 => h2 ⟨hb, h0⟩, k3, hm, Nat.lt_trans (dval_ten hd2) (ten_two hl2)⟩
      · cases h
  · cases h
theorem parse_qd {s : List UInt8} {t : Qd} (h : parseQ s = some t) : ∃ q, parseR s = some q ∧ qd q = t ∧ fits 700 q := by
  obtain ⟨b, m, n⟩ := t
  obtain ⟨h1, h2, h3, h4, h5⟩ := parse_parts h
  have e : qd (mkRat (sg b m) n) = (b, m, n) := by rw [qd_mkRat b m n h1, h3, Nat.div_one, Nat.div_one]; clear h4 h5 h; cases b <;> simp_all
  refine ⟨_, by simp only [parseR, h, Option.map_some], e, ?_⟩
  have e1 : (mkRat (sg b m) n).num.natAbs = m := congrArg (·.2.1) e
  have e2 : (mkRat (sg b m) n).den = n := congrArg (·.2.2) e
  exact ⟨by rw [e1]; exact h4, by rw [e2]; exact h5⟩
theorem parse_none {s : List UInt8} (h : parseQ s = none) : parseR s = none := by simp [parseR, h]
theorem parse_fits {s : List UInt8} {q : Rat} (h : parseR s = some q) : fits 700 q := by
 cases hq : parseQ s with
 | none => rw [parse_none hq] at h; cases h
 | some t => obtain ⟨q', h1, _, h3⟩ := parse_qd hq; rw [h1] at h; cases h; exact h3
def optI : Option Rat → AV
 | some q => .tup [rI 700 q, .bool true]
 | none => .tup [.agg [.bool false, .nil, .nil], .bool false]
def optS : Option Rat → AV
 | some q => .tup [rS 700 q, .bool true]
 | none => .tup [.agg [.bool false, .nil, .nil], .bool false]
def optLI : Option (List Rat) → AV
 | some q => .tup [lI 700 q, .bool true]
 | none => .tup [.nil, .bool false]
def optLS : Option (List Rat) → AV
 | some q => .tup [lS 700 q, .bool true]
 | none => .tup [.nil, .bool false]
@[simp] theorem optI_pure (o : Option Rat) : (optI o).pure = true := by cases o <;> simp [optI, AV.pure, AV.pureL]
@[simp] theorem optS_pure (o : Option Rat) : (optS o).pure = true := by cases o <;> simp [optS, AV.pure, AV.pureL]
@[simp] theorem optLI_pure (o : Option (List Rat)) : (optLI o).pure = true := by cases o <;> simp [optLI, AV.pure, AV.pureL]
theorem optI_s (q : Rat) : optI (some q) = .tup [rI 700 q, .bool true] := rfl
theorem optI_n : optI none = .tup [.agg [.bool false, .nil, .nil], .bool false] := rfl
theorem optS_s (q : Rat) : optS (some q) = .tup [rS 700 q, .bool true] := rfl
theorem optS_n : optS none = .tup [.agg [.bool false, .nil, .nil], .bool false] := rfl
theorem optLI_s (q : List Rat) : optLI (some q) = .tup [lI 700 q, .bool true] := rfl
theorem optLI_n : optLI none = .tup [.nil, .bool false] := rfl
theorem optLS_s (q : List Rat) : optLS (some q) = .tup [lS 700 q, .bool true] := rfl
theorem optLS_n : optLS none = .tup [.nil, .bool false] := rfl
attribute [go_sem] optI_s optI_n optS_s optS_n optLI_s optLI_n optLS_s optLS_n List.drop_succ_cons
theorem w_readRat {s : List UInt8} (hs : s.length < 9223372036854775808) : CW Tryz.prog 45 [.str s] (optI (parseR s)) := by
 refine cw (by kernel_rfl) (by simp [AV.pure, AV.pureL]) (by simp [AV.pure, AV.pureL]) ?_
 have h := i_readRat s hs
 unfold readRatV at h
 cases hq : parseQ s with
 | none => rw [hq] at h; rw [parse_none hq]; exact h
 | some t =>
  obtain ⟨q, h1, h2, h3⟩ := parse_qd hq
  rw [hq] at h
  rw [h1, optI_s, rI_eq h3, h2]; exact h
attribute [go_sem] w_readRat
theorem w_sParse {s : List UInt8} (hs : s.length ≤ 1000000) : CW Tryz.prog 37 [.str s] (optS (parseR s)) := by
 refine cw (by kernel_rfl) (by simp [AV.pure, AV.pureL]) (by simp [AV.pure, AV.pureL]) ?_
 have h := s_Parse s hs
 unfold parseV at h
 cases hq : parseQ s with
 | none => rw [hq] at h; rw [parse_none hq]; exact h
 | some t =>
  obtain ⟨q, h1, h2, h3⟩ := parse_qd hq
  rw [hq] at h
  rw [h1, optS_s, rS_eq h3, h2]; exact h
attribute [go_sem] w_sParse
theorem w_sIn {n a b : Int} : CW Tryz.prog 20 [.int .i64 n, .int .i64 a, .int .i64 b] (.bool (decide (a ≤ n ∧ n ≤ b))) := by
  refine cw (by kernel_rfl) (by simp [AV.pure, AV.pureL]) (by simp [AV.pure, AV.pureL]) ?_
  by_cases h1 : a ≤ n
  · by_cases h2 : n ≤ b
    all_goals
      (refine callOk_of_wpc (W := fun _ => false) false hm' Tryz.func20 rfl (by kernel_rfl) (Nat.le_of_ble_eq_true rfl) (go_start ?_); generalize hQ : Post Tryz.prog Tryz.f20 _ _ _ _ _ = Q; simp only [stIn, matL, matA, st00])
      simp (disch := omega) only [go_sem, Nat.reduceEqDiff, Nat.reduceBEq, ↓reduceIte, reduceCtorEq]
      rw [← hQ]
      exact post_one (.inl rfl) rfl (by simp [upd_app]; omega) rfl
  · (refine callOk_of_wpc (W := fun _ => false) false hm' Tryz.func20 rfl (by kernel_rfl) (Nat.le_of_ble_eq_true rfl) (go_start ?_); generalize hQ : Post Tryz.prog Tryz.f20 _ _ _ _ _ = Q; simp only [stIn, matL, matA, st00])
    simp (disch := omega) only [go_sem, Nat.reduceEqDiff, Nat.reduceBEq, ↓reduceIte, reduceCtorEq]
    rw [← hQ]
    exact post_one (.inl rfl) rfl (by simp [upd_app]; omega) rfl
attribute [go_sem] w_sIn
theorem w_in {n a b : Int} : CW Tryz.prog 24 [.int .i64 n, .int .i64 a, .int .i64 b] (.bool (decide (a ≤ n ∧ n ≤ b))) := by
  refine cw (by kernel_rfl) (by simp [AV.pure, AV.pureL]) (by simp [AV.pure, AV.pureL]) ?_
  by_cases h1 : a ≤ n
  · by_cases h2 : n ≤ b
    all_goals
      (refine callOk_of_wpc (W := fun _ => false) false hm' Tryz.func24 rfl (by kernel_rfl) (Nat.le_of_ble_eq_true rfl) (go_start ?_); generalize hQ : Post Tryz.prog Tryz.f24 _ _ _ _ _ = Q; simp only [stIn, matL, matA, st00])
      simp (disch := omega) only [go_sem, Nat.reduceEqDiff, Nat.reduceBEq, ↓reduceIte, reduceCtorEq]
      rw [← hQ]
      exact post_one (.inl rfl) rfl (by simp [upd_app]; omega) rfl
  · (refine callOk_of_wpc (W := fun _ => false) false hm' Tryz.func24 rfl (by kernel_rfl) (Nat.le_of_ble_eq_true rfl) (go_start ?_); generalize hQ : Post Tryz.prog Tryz.f24 _ _ _ _ _ = Q; simp only [stIn, matL, matA, st00])
    simp (disch := omega) only [go_sem, Nat.reduceEqDiff, Nat.reduceBEq, ↓reduceIte, reduceCtorEq]
    rw [← hQ]
    exact post_one (.inl rfl) rfl (by simp [upd_app]; omega) rfl
attribute [go_sem] w_in
theorem o_lModel : okT Tryz.prog 23 = true := by kernel_rfl
theorem g_lModel : aggT Tryz.prog 23 = true := by kernel_rfl
theorem s_lModel : szT Tryz.prog 23 = 5 := by kernel_rfl
theorem z_lModel : zeroA Tryz.prog 23 = some (.agg [.int .i64 0, .str [], .str [], .str [], .str []]) := by kernel_rfl
theorem fs_lModel : infosT Tryz.prog 23 = true := by kernel_rfl
theorem f_lModel0 : fieldOff Tryz.prog 23 0 = some (0, 2) := by kernel_rfl
theorem f_lModel1 : fieldOff Tryz.prog 23 1 = some (1, 9) := by kernel_rfl
theorem f_lModel2 : fieldOff Tryz.prog 23 2 = some (2, 9) := by kernel_rfl
theorem f_lModel3 : fieldOff Tryz.prog 23 3 = some (3, 9) := by kernel_rfl
theorem f_lModel4 : fieldOff Tryz.prog 23 4 = some (4, 9) := by kernel_rfl
theorem el_lModel {a0 a1 a2 a3 a4 : AV} : AV.el Tryz.prog 23 (.agg [a0, a1, a2, a3, a4]) = (a0.one && (a1.one && (a2.one && (a3.one && (a4.one))))) := by simp [AV.el, s_lModel, AV.cells]
attribute [go_sem] o_lModel g_lModel s_lModel z_lModel fs_lModel f_lModel0 f_lModel1 f_lModel2 f_lModel3 f_lModel4 el_lModel
theorem o_iModel : okT Tryz.prog 28 = true := by kernel_rfl
theorem g_iModel : aggT Tryz.prog 28 = true := by kernel_rfl
theorem s_iModel : szT Tryz.prog 28 = 5 := by kernel_rfl
theorem z_iModel : zeroA Tryz.prog 28 = some (.agg [.int .i64 0, .str [], .str [], .str [], .str []]) := by kernel_rfl
theorem fs_iModel : infosT Tryz.prog 28 = true := by kernel_rfl
theorem f_iModel0 : fieldOff Tryz.prog 28 0 = some (0, 2) := by kernel_rfl
theorem f_iModel1 : fieldOff Tryz.prog 28 1 = some (1, 9) := by kernel_rfl
theorem f_iModel2 : fieldOff Tryz.prog 28 2 = some (2, 9) := by kernel_rfl
theorem f_iModel3 : fieldOff Tryz.prog 28 3 = some (3, 9) := by kernel_rfl
theorem f_iModel4 : fieldOff Tryz.prog 28 4 = some (4, 9) := by kernel_rfl
theorem el_iModel {a0 a1 a2 a3 a4 : AV} : AV.el Tryz.prog 28 (.agg [a0, a1, a2, a3, a4]) = (a0.one && (a1.one && (a2.one && (a3.one && (a4.one))))) := by simp [AV.el, s_iModel, AV.cells]
theorem ld_iModel {a0 a1 a2 a3 a4 : AV} : ldA Tryz.prog 28 (.agg [a0, a1, a2, a3, a4]) 0 = some (.agg [a0, a1, a2, a3, a4]) := by simp [ldA, partA, g_iModel, s_iModel, AV.cells]
attribute [go_sem] o_iModel g_iModel s_iModel z_iModel fs_iModel f_iModel0 f_iModel1 f_iModel2 f_iModel3 f_iModel4 el_iModel
theorem o_imodel : okT Tryz.prog 55 = true := by kernel_rfl
theorem g_imodel : aggT Tryz.prog 55 = true := by kernel_rfl
theorem s_imodel : szT Tryz.prog 55 = 13 := by kernel_rfl
theorem z_imodel : zeroA Tryz.prog 55 = some (.agg [.int .i64 0, .bool false, .nil, .nil, .bool false, .nil, .nil, .bool false, .nil, .nil, .bool false, .nil, .nil]) := by kernel_rfl
theorem fs_imodel : infosT Tryz.prog 55 = true := by kernel_rfl
theorem f_imodel0 : fieldOff Tryz.prog 55 0 = some (0, 3) := by kernel_rfl
theorem f_imodel1 : fieldOff Tryz.prog 55 1 = some (1, 53) := by kernel_rfl
theorem f_imodel2 : fieldOff Tryz.prog 55 2 = some (4, 53) := by kernel_rfl
theorem f_imodel3 : fieldOff Tryz.prog 55 3 = some (7, 53) := by kernel_rfl
theorem f_imodel4 : fieldOff Tryz.prog 55 4 = some (10, 53) := by kernel_rfl
theorem el_imodel {a0 a1 a2 a3 a4 a5 a6 a7 a8 a9 a10 a11 a12 : AV} : AV.el Tryz.prog 55 (.agg [a0, a1, a2, a3, a4, a5, a6, a7, a8, a9, a10, a11, a12]) = (a0.one && (a1.one && (a2.one && (a3.one && (a4.one && (a5.one && (a6.one && (a7.one && (a8.one && (a9.one && (a10.one && (a11.one && (a12.one))))))))))))) := by simp [AV.el, s_imodel, AV.cells]
theorem ld_imodel {a0 a1 a2 a3 a4 a5 a6 a7 a8 a9 a10 a11 a12 : AV} : ldA Tryz.prog 55 (.agg [a0, a1, a2, a3, a4, a5, a6, a7, a8, a9, a10, a11, a12]) 0 = some (.agg [a0, a1, a2, a3, a4, a5, a6, a7, a8, a9, a10, a11, a12]) := by simp [ldA, partA, g_imodel, s_imodel, AV.cells]
attribute [go_sem] o_imodel g_imodel s_imodel z_imodel fs_imodel f_imodel0 f_imodel1 f_imodel2 f_imodel3 f_imodel4 el_imodel
theorem o_sMod : okT Tryz.prog 41 = true := by kernel_rfl
theorem g_sMod : aggT Tryz.prog 41 = true := by kernel_rfl
theorem s_sMod : szT Tryz.prog 41 = 16 := by kernel_rfl
theorem z_sMod : zeroA Tryz.prog 41 = some (.agg [.int .i64 0, .bool false, .nil, .nil, .bool false, .nil, .nil, .bool false, .nil, .nil, .bool false, .nil, .nil, .bool false, .nil, .nil]) := by kernel_rfl
theorem fs_sMod : infosT Tryz.prog 41 = true := by kernel_rfl
theorem f_sMod0 : fieldOff Tryz.prog 41 0 = some (0, 3) := by kernel_rfl
theorem f_sMod1 : fieldOff Tryz.prog 41 1 = some (1, 39) := by kernel_rfl
theorem f_sMod2 : fieldOff Tryz.prog 41 2 = some (4, 39) := by kernel_rfl
theorem f_sMod3 : fieldOff Tryz.prog 41 3 = some (7, 39) := by kernel_rfl
theorem f_sMod4 : fieldOff Tryz.prog 41 4 = some (10, 39) := by kernel_rfl
theorem f_sMod5 : fieldOff Tryz.prog 41 5 = some (13, 39) := by kernel_rfl
theorem el_sMod {a0 a1 a2 a3 a4 a5 a6 a7 a8 a9 a10 a11 a12 a13 a14 a15 : AV} : AV.el Tryz.prog 41 (.agg [a0, a1, a2, a3, a4, a5, a6, a7, a8, a9, a10, a11, a12, a13, a14, a15]) = (a0.one && (a1.one && (a2.one && (a3.one && (a4.one && (a5.one && (a6.one && (a7.one && (a8.one && (a9.one && (a10.one && (a11.one && (a12.one && (a13.one && (a14.one && (a15.one)))))))))))))))) := by simp [AV.el, s_sMod, AV.cells]
theorem ld_sMod {a0 a1 a2 a3 a4 a5 a6 a7 a8 a9 a10 a11 a12 a13 a14 a15 : AV} : ldA Tryz.prog 41 (.agg [a0, a1, a2, a3, a4, a5, a6, a7, a8, a9, a10, a11, a12, a13, a14, a15]) 0 = some (.agg [a0, a1, a2, a3, a4, a5, a6, a7, a8, a9, a10, a11, a12, a13, a14, a15]) := by simp [ldA, partA, g_sMod, s_sMod, AV.cells]
attribute [go_sem] o_sMod g_sMod s_sMod z_sMod fs_sMod f_sMod0 f_sMod1 f_sMod2 f_sMod3 f_sMod4 f_sMod5 el_sMod
theorem s_int : szT Tryz.prog 3 = 1 := by kernel_rfl
theorem g_int : aggT Tryz.prog 3 = false := by kernel_rfl
theorem el_int {n : Int} : AV.el Tryz.prog 3 (.int .i64 n) = true := by simp [AV.el, s_int, AV.cells, AV.one]
attribute [go_sem] s_int g_int el_int
section
variable {P : Program} {W : FuncId → Bool} {d : Option Tmp} {ops : Array Oper} {os : List Oper} {fr : Nat → AV} {h : Nat → Blk} {nx : Nat} {K : St → Prop} {t : TokC ⟨d, ops, os, fr, h, nx, K⟩} {g : FuncId} {al : List AV}
theorem callW_X {sargs : List AV} {ids : List Nat} {r x : AV} {st' : St} (hc : CallOk P g sargs r []) (hg : callable P g = true) (hs : snapL (snapA ⟨fr, h, nx⟩ 8) al = some (sargs, ids)) (ht : r.solid = true) (hm : matA true r ⟨fr, h, nx⟩ = (x, st')) (hW : W g = true)
    (hk : wpos P W ops os (st'.put d x) K) : callW P W g al ⟨d, ops, os, fr, h, nx, K⟩ t := by
  have he : eatH (outH h [] []) [] = h := by funext i; simp [eatH, outH]
  refine callW_of (pm := al.map fun _ => .snap) (outs := []) hc hg (passL_snap' hs) ?_ (by simp) (by simp) (.inr ⟨ht, rfl⟩) (.inl rfl) ?_ ?_
  · intro hw; rw [hW] at hw; cases hw
  · intro hw; rw [hW] at hw; cases hw
  · rw [he, hm]; exact hk
end
abbrev CWT (P : Program) (g : FuncId) (al : List AV) (T : Nat) (xs sp : List AV) (ex b : Bool) : Prop :=
 ∀ (W : FuncId → Bool) (d : Option Tmp) (ops : Array Oper) (os : List Oper) (fr : Nat → AV) (h : Nat → Blk) (nx : Nat) (K : St → Prop) (t : TokC ⟨d, ops, os, fr, h, nx, K⟩), W g = true →
  callW P W g al ⟨d, ops, os, fr, h, nx, K⟩ t = (Hid (callW P W g al ⟨d, ops, os, fr, h, nx, K⟩ .mk) .mk ∨ wpos P W ops os (St.put ⟨fr, upd h nx ⟨T, xs ++ sp, ex, true, true⟩, nx + 1⟩ d (.tup [.ref nx (xs.length + sp.length) 0 xs.length, .bool b])) K)
theorem matA_ownB {T : Nat} {xs sp : List AV} {ex b : Bool} {fr : Nat → AV} {h : Nat → Blk} {nx : Nat} (hr : AV.pureL xs = true) (hs : AV.pureL sp = true) :
  matA true (.tup [.own T xs sp ex, .bool b]) ⟨fr, h, nx⟩ = (.tup [.ref nx (xs.length + sp.length) 0 xs.length, .bool b], ⟨fr, upd h nx ⟨T, xs ++ sp, ex, true, true⟩, nx + 1⟩) := by
 simp only [matA, matL, matL_pure _ _ _ hr, matL_pure _ _ _ hs, St.new]
theorem t_bools : elT Tryz.prog 25 = some 4 := by kernel_rfl
theorem o_bools : okT Tryz.prog 25 = true := by kernel_rfl
theorem i_bool : (Tryz.prog.info? 4).isSome = true := by kernel_rfl
theorem b_bool : byT Tryz.prog 4 = 1 := by kernel_rfl
theorem z_bool : zeroA Tryz.prog 4 = some (.bool false) := by kernel_rfl
theorem zk_bool : zokT Tryz.prog 4 = true := by kernel_rfl
theorem w_bool : u32T Tryz.prog 4 = false := by kernel_rfl
attribute [go_sem] t_bools o_bools i_bool b_bool z_bool zk_bool w_bool
def boolA (bs : List Bool) : List AV := bs.map .bool
theorem boolA_len {bs : List Bool} : (boolA bs).length = bs.length := by simp [boolA]
theorem boolA_at {bs : List Bool} {i : Nat} : (boolA bs)[i]? = (bs[i]?).map AV.bool := by simp [boolA]
@[simp] theorem boolA_pure (bs : List Bool) : AV.pureL (boolA bs) = true := by induction bs <;> simp_all [boolA, AV.pureL, AV.pure]
theorem boolA_snoc {bs : List Bool} {b : Bool} : boolA bs ++ [.bool b] = boolA (bs ++ [b]) := by simp [boolA]
theorem boolA_put {bs : List Bool} {i : Nat} {b : Bool} : (boolA bs).set i (.bool b) = boolA (bs.set i b) := by simp [boolA, List.map_set]
theorem boolA_take {bs : List Bool} {n : Nat} : (boolA bs).take n = boolA (bs.take n) := by simp [boolA, List.map_take]
theorem snap_bools {st : St} {id n : Nat} {bs : List Bool} {ex gr : Bool} {more : List AV} (h : st.h id = ⟨4, boolA bs, ex, gr, true⟩) (hn : bs.length = n) (hp : AV.pureL more = true) : snapL (snapA st 8) (.ref id n 0 n :: more) = some (.sl 4 (boolA bs) [] false :: more, [id]) := by
 have h1 : snapA st 8 (.ref id n 0 n) = some (.sl 4 (boolA bs) [] false, [id]) := snap_frozen (d := 7) (by rw [h]) (by rw [h, boolA_len, hn]) (by rw [h]) (by omega) (by rw [h, List.drop_zero]; exact List.take_of_length_le (by rw [boolA_len]; omega)) (boolA_pure _)
 simp [snapL, h1, snapL_pure hp]
theorem postB_own {P : Program} {fn : Func} {n0 : Nat} {fl : Bool} {t u : Tmp} {id n len T : Nat} {r sp : List AV} {ex b : Bool} {st : St} {e : Ex} (he : e = .ret ∨ e = .normal) (hr : fn.results.toList = [.tmp t, .tmp u]) (hv : st.fr t = .ref id n 0 len) (hw : st.fr u = .bool b)
  (hlv : (st.h id).lv = true) (hn : (st.h id).xs.length = n) (hg : (st.h id).gr = true) (ht : (st.h id).t = T) (hl : len ≤ n) (hxs : (st.h id).xs.take len = r) (hsp : (if (st.h id).ex = true then (st.h id).xs.drop len else []) = sp) (hex : (st.h id).ex = ex) (hp : AV.pureL r = true) (hq : AV.pureL sp = true) :
  Post P fn n0 fl true (.tup [.own T r sp ex, .bool b]) [] e st := by
 refine ⟨by rcases he with rfl | rfl <;> trivial, .tup [.ref id n 0 len, .bool b], by rw [hr]; simp [resV, resL, resA, hv, hw], [id], ?_, .inl rfl⟩
 simp only [if_true]
 refine ⟨?_, by simp⟩
 have key : ownA st 7 (.ref id n 0 len) = some (.own T r sp ex, [id]) := by
  rw [ownA_ref, if_pos ⟨hlv, hn, rfl, hl, hg⟩, hxs, snapLo_pure hp, ht]
  rw [hex] at hsp
  simp only [hex, Option.bind_some]
  cases ex with
  | true => simp only [if_true] at hsp ⊢; rw [hsp, snapLo_pure hq]; simp
  | false => simp only [Bool.false_eq_true, if_false] at hsp ⊢; rw [← hsp]; simp
 have : ownA st (7 + 1) (.tup [.ref id n 0 len, .bool b]) = some (.tup [.own T r sp ex, .bool b], [id]) := by
  rw [ownA]
  have hb : ownA st 7 (.bool b) = some (.bool b, []) := ownA_pure rfl
  simp [AV.pure, AV.pureL, snapL, key, hb]
 exact this
theorem postB_two {P : Program} {fn : Func} {n0 : Nat} {fl : Bool} {t u : Tmp} {v w : AV} {st : St} {e : Ex} (he : e = .ret ∨ e = .normal) (hr : fn.results.toList = [.tmp t, .tmp u]) (hv : st.fr t = v) (hw : st.fr u = w) (hp : v.pure = true) (hq : w.pure = true) :
  Post P fn n0 fl true (.tup [v, w]) [] e st := by
 refine ⟨by rcases he with rfl | rfl <;> trivial, .tup [v, w], by rw [hr]; simp [resV, resL, resA, hv, hw], [], ?_, .inl rfl⟩
 simp only [if_true]
 exact ⟨ownA_pure (by simp [AV.pure, AV.pureL, hp, hq]), by simp⟩
structure Mdl where
 room : Int
 come : List UInt8
 serve : List UInt8
 reward : List UInt8
 cost : List UInt8
abbrev Mdl.av (m : Mdl) : AV := .agg [.int .i64 m.room, .str m.come, .str m.serve, .str m.reward, .str m.cost]
def Mdl.small (m : Mdl) : Prop := m.come.length ≤ 1000000 ∧ m.serve.length ≤ 1000000 ∧ m.reward.length ≤ 1000000 ∧ m.cost.length ≤ 1000000
structure MR where
 room : Nat
 come : Rat
 serve : Rat
 reward : Rat
 cost : Rat
def modOk (m : Mdl) (c s r k : Rat) : Prop := 1 ≤ m.room ∧ m.room ≤ 8 ∧ 0 < c ∧ 0 < s ∧ 0 ≤ r ∧ 0 ≤ k ∧ c + s ≤ 1
instance (m : Mdl) (c s r k : Rat) : Decidable (modOk m c s r k) := by unfold modOk; infer_instance
def modR (m : Mdl) : Option MR :=
 match parseR m.come, parseR m.serve, parseR m.reward, parseR m.cost with
 | some c, some s, some r, some k => if modOk m c s r k then some ⟨m.room.toNat, c, s, r, k⟩ else none
 | _, _, _, _ => none
theorem modR_fits {m : Mdl} {x : MR} (h : modR m = some x) : fits 700 x.come ∧ fits 700 x.serve ∧ fits 700 x.reward ∧ fits 700 x.cost ∧ 1 ≤ x.room ∧ x.room ≤ 8 ∧ m.room = x.room ∧ 0 < x.come ∧ 0 < x.serve ∧ 0 ≤ x.reward ∧ 0 ≤ x.cost ∧ x.come + x.serve ≤ 1 := by
  unfold modR at h
  split at h
  · rename_i c s r k hc hs hr hk
    split at h
    · rename_i ho
      cases h
      obtain ⟨o1, o2, o3⟩ := ho
      exact ⟨parse_fits hc, parse_fits hs, parse_fits hr, parse_fits hk, by simp only; omega, by simp only; omega, by simp only; omega, o3⟩
    · cases h
  · cases h
abbrev MR.sv (x : MR) : AV := .agg [.int .i64 x.room, .bool (decide (x.come.num < 0)), tS 700 x.come, dS 700 x.come, .bool (decide (x.serve.num < 0)), tS 700 x.serve, dS 700 x.serve,
 .bool (decide ((1 - x.come - x.serve).num < 0)), tS 1466 (1 - x.come - x.serve), dS 1466 (1 - x.come - x.serve), .bool (decide (x.reward.num < 0)), tS 700 x.reward, dS 700 x.reward, .bool (decide (x.cost.num < 0)), tS 700 x.cost, dS 700 x.cost]
abbrev zeroMS : AV := .agg [.int .i64 0, .bool false, .nil, .nil, .bool false, .nil, .nil, .bool false, .nil, .nil, .bool false, .nil, .nil, .bool false, .nil, .nil]
def modS : Option MR → AV
 | some x => .tup [x.sv, .bool true]
 | none => .tup [zeroMS, .bool false]
theorem modS_s (x : MR) : modS (some x) = .tup [x.sv, .bool true] := rfl
theorem modS_n : modS none = .tup [zeroMS, .bool false] := rfl
@[simp] theorem modS_pure (o : Option MR) : (modS o).pure = true := by cases o <;> simp [modS, AV.pure, AV.pureL]
attribute [go_sem] modS_s modS_n
theorem gen_sParse {s : List UInt8} (hs : s.length ≤ 1000000) : ∃ x y z, CW Tryz.prog 37 [.str s] (.tup [.agg [x, y, z], .bool (parseR s).isSome]) ∧ x.one = true ∧ y.one = true ∧ z.one = true := by
 have h := w_sParse hs
 cases hq : parseR s with
 | none => rw [hq] at h; exact ⟨_, _, _, h, rfl, rfl, rfl⟩
 | some q => rw [hq] at h; exact ⟨_, _, _, h, rfl, by simp, by simp⟩
set_option maxHeartbeats 8000000 in
theorem s_l09Parse (m : Mdl) (hm0 : m.small) : CP Tryz.prog 19 28 m.av [] (modS (modR m)) := by
  obtain ⟨l1, l2, l3, l4⟩ := hm0
  obtain ⟨x1, y1, z1, g1, a1, b1, c1⟩ := gen_sParse l1
  obtain ⟨x2, y2, z2, g2, a2, b2, c2⟩ := gen_sParse l2
  obtain ⟨x3, y3, z3, g3, a3, b3, c3⟩ := gen_sParse l3
  obtain ⟨x4, y4, z4, g4, a4, b4, c4⟩ := gen_sParse l4
  have hroom : ∀ c s r k, parseR m.come = some c → parseR m.serve = some s → parseR m.reward = some r → parseR m.cost = some k → ¬ modOk m c s r k → modR m = none := by
    intro c s r k e1 e2 e3 e4 h
    simp only [modR, e1, e2, e3, e4, if_neg h]
  have hnone : (parseR m.come = none ∨ parseR m.serve = none ∨ parseR m.reward = none ∨ parseR m.cost = none) → modR m = none := by
    intro h
    simp only [modR]
    split
    · rename_i e1 e2 e3 e4; simp [e1, e2, e3, e4] at h
    · rfl
  by_cases hr : ¬ (1 ≤ m.room ∧ m.room ≤ 8)
  · have hn : modR m = none := by
      unfold modR
      split
      · rw [if_neg (fun h => hr ⟨h.1, h.2.1⟩)]
      · rfl
    rw [hn]
    have hr' : decide (1 ≤ m.room ∧ m.room ≤ 8) = false := by simpa using hr
    (intro fr0 h nx id hm hid; refine inOkF_of_wpc (W := ⟨fun _ => false, fun r => if r = 7 then some [(0, 5), (1, 5), (2, 5), (3, 5), (4, 5)] else none⟩) hm' Tryz.func19 rfl (by kernel_rfl) (Nat.le_of_ble_eq_true rfl) (by simp [AV.pure, AV.pureL]) (go_start ?_); generalize hQ : PostF Tryz.prog Tryz.f19 _ _ _ = Q; clear fr0)
    simp (disch := omega) only [go_sem, Nat.reduceEqDiff, Nat.reduceBEq, ↓reduceIte, reduceCtorEq, ↓k_appE, hm, g1, g2, g3, g4, a1, b1, c1, a2, b2, c2, a3, b3, c3, a4, b4, c4, Option.isSome_none, Option.isSome_some, hr']
    (repeat (with_reducible refine Or.inr ?_))
    rw [← hQ]
    exact postF_cell (id := nx) (x := zeroMS) (.inl rfl) rfl o_sMod (by simp [upd_app] <;> omega) (by simp [upd_app]) (by simp [upd_app]) ld_sMod (by simp [upd_app] <;> omega) (by intro i hi; simp only [upd_app]; repeat rw [if_neg (by omega)]) (by simp <;> omega)
  have hr' : decide (1 ≤ m.room ∧ m.room ≤ 8) = true := by simpa using hr
  cases e1 : parseR m.come with
  | none =>
    rw [e1] at g1
    rw [hnone (.inl e1)]
    (intro fr0 h nx id hm hid; refine inOkF_of_wpc (W := ⟨fun _ => false, fun r => if r = 7 then some [(0, 5), (1, 5), (2, 5), (3, 5), (4, 5)] else none⟩) hm' Tryz.func19 rfl (by kernel_rfl) (Nat.le_of_ble_eq_true rfl) (by simp [AV.pure, AV.pureL]) (go_start ?_); generalize hQ : PostF Tryz.prog Tryz.f19 _ _ _ = Q; clear fr0)
    simp (disch := omega) only [go_sem, Nat.reduceEqDiff, Nat.reduceBEq, ↓reduceIte, reduceCtorEq, ↓k_appE, hm, g1, g2, g3, g4, a1, b1, c1, a2, b2, c2, a3, b3, c3, a4, b4, c4, Option.isSome_none, Option.isSome_some, hr']
    (repeat (with_reducible refine Or.inr ?_))
    rw [← hQ]
    exact postF_cell (id := nx) (x := zeroMS) (.inl rfl) rfl o_sMod (by simp [upd_app] <;> omega) (by simp [upd_app]) (by simp [upd_app]) ld_sMod (by simp [upd_app] <;> omega) (by intro i hi; simp only [upd_app]; repeat rw [if_neg (by omega)]) (by simp <;> omega)
  | some c =>
  cases e2 : parseR m.serve with
  | none =>
    rw [e1] at g1; rw [e2] at g2
    rw [hnone (.inr (.inl e2))]
    (intro fr0 h nx id hm hid; refine inOkF_of_wpc (W := ⟨fun _ => false, fun r => if r = 7 then some [(0, 5), (1, 5), (2, 5), (3, 5), (4, 5)] else none⟩) hm' Tryz.func19 rfl (by kernel_rfl) (Nat.le_of_ble_eq_true rfl) (by simp [AV.pure, AV.pureL]) (go_start ?_); generalize hQ : PostF Tryz.prog Tryz.f19 _ _ _ = Q; clear fr0)
    simp (disch := omega) only [go_sem, Nat.reduceEqDiff, Nat.reduceBEq, ↓reduceIte, reduceCtorEq, ↓k_appE, hm, g1, g2, g3, g4, a1, b1, c1, a2, b2, c2, a3, b3, c3, a4, b4, c4, Option.isSome_none, Option.isSome_some, hr']
    (repeat (with_reducible refine Or.inr ?_))
    rw [← hQ]
    exact postF_cell (id := nx) (x := zeroMS) (.inl rfl) rfl o_sMod (by simp [upd_app] <;> omega) (by simp [upd_app]) (by simp [upd_app]) ld_sMod (by simp [upd_app] <;> omega) (by intro i hi; simp only [upd_app]; repeat rw [if_neg (by omega)]) (by simp <;> omega)
  | some s =>
  cases e3 : parseR m.reward with
  | none =>
    rw [e1] at g1; rw [e2] at g2; rw [e3] at g3
    rw [hnone (.inr (.inr (.inl e3)))]
    (intro fr0 h nx id hm hid; refine inOkF_of_wpc (W := ⟨fun _ => false, fun r => if r = 7 then some [(0, 5), (1, 5), (2, 5), (3, 5), (4, 5)] else none⟩) hm' Tryz.func19 rfl (by kernel_rfl) (Nat.le_of_ble_eq_true rfl) (by simp [AV.pure, AV.pureL]) (go_start ?_); generalize hQ : PostF Tryz.prog Tryz.f19 _ _ _ = Q; clear fr0)
    simp (disch := omega) only [go_sem, Nat.reduceEqDiff, Nat.reduceBEq, ↓reduceIte, reduceCtorEq, ↓k_appE, hm, g1, g2, g3, g4, a1, b1, c1, a2, b2, c2, a3, b3, c3, a4, b4, c4, Option.isSome_none, Option.isSome_some, hr']
    (repeat (with_reducible refine Or.inr ?_))
    rw [← hQ]
    exact postF_cell (id := nx) (x := zeroMS) (.inl rfl) rfl o_sMod (by simp [upd_app] <;> omega) (by simp [upd_app]) (by simp [upd_app]) ld_sMod (by simp [upd_app] <;> omega) (by intro i hi; simp only [upd_app]; repeat rw [if_neg (by omega)]) (by simp <;> omega)
  | some r =>
  cases e4 : parseR m.cost with
  | none =>
    rw [e1] at g1; rw [e2] at g2; rw [e3] at g3; rw [e4] at g4
    rw [hnone (.inr (.inr (.inr e4)))]
    (intro fr0 h nx id hm hid; refine inOkF_of_wpc (W := ⟨fun _ => false, fun r => if r = 7 then some [(0, 5), (1, 5), (2, 5), (3, 5), (4, 5)] else none⟩) hm' Tryz.func19 rfl (by kernel_rfl) (Nat.le_of_ble_eq_true rfl) (by simp [AV.pure, AV.pureL]) (go_start ?_); generalize hQ : PostF Tryz.prog Tryz.f19 _ _ _ = Q; clear fr0)
    simp (disch := omega) only [go_sem, Nat.reduceEqDiff, Nat.reduceBEq, ↓reduceIte, reduceCtorEq, ↓k_appE, hm, g1, g2, g3, g4, a1, b1, c1, a2, b2, c2, a3, b3, c3, a4, b4, c4, Option.isSome_none, Option.isSome_some, hr']
    (repeat (with_reducible refine Or.inr ?_))
    rw [← hQ]
    exact postF_cell (id := nx) (x := zeroMS) (.inl rfl) rfl o_sMod (by simp [upd_app] <;> omega) (by simp [upd_app]) (by simp [upd_app]) ld_sMod (by simp [upd_app] <;> omega) (by intro i hi; simp only [upd_app]; repeat rw [if_neg (by omega)]) (by simp <;> omega)
  | some k =>
  have p1 := w_sParse l1
  have p2 := w_sParse l2
  have p3 := w_sParse l3
  have p4 := w_sParse l4
  rw [e1] at p1; rw [e2] at p2; rw [e3] at p3; rw [e4] at p4
  have hbad := hroom c s r k e1 e2 e3 e4
  clear g1 a1 b1 c1 g2 a2 b2 c2 g3 a3 b3 c3 g4 a4 b4 c4 hnone hroom x1 y1 z1 x2 y2 z2 x3 y3 z3 x4 y4 z4
  by_cases n1 : r < 0
  · rw [hbad (fun h => absurd n1 (Rat.not_lt.2 h.2.2.2.2.1))]
    have d1 : decide (r < 0) = true := by simpa using n1
    (intro fr0 h nx id hm hid; refine inOkF_of_wpc (W := ⟨fun _ => false, fun r => if r = 7 then some [(0, 5), (1, 5), (2, 5), (3, 5), (4, 5)] else none⟩) hm' Tryz.func19 rfl (by kernel_rfl) (Nat.le_of_ble_eq_true rfl) (by simp [AV.pure, AV.pureL]) (go_start ?_); generalize hQ : PostF Tryz.prog Tryz.f19 _ _ _ = Q; clear fr0)
    simp (disch := omega) only [go_sem, Nat.reduceEqDiff, Nat.reduceBEq, ↓reduceIte, reduceCtorEq, ↓k_appE, hm, p1, p2, p3, p4, hr', d1]
    (repeat (with_reducible refine Or.inr ?_))
    rw [← hQ]
    exact postF_cell (id := nx) (x := zeroMS) (.inl rfl) rfl o_sMod (by simp [upd_app] <;> omega) (by simp [upd_app]) (by simp [upd_app]) ld_sMod (by simp [upd_app] <;> omega) (by intro i hi; simp only [upd_app]; repeat rw [if_neg (by omega)]) (by simp <;> omega)
  have d1 : decide (r < 0) = false := by simpa using n1
  by_cases n2 : k < 0
  · rw [hbad (fun h => absurd n2 (Rat.not_lt.2 h.2.2.2.2.2.1))]
    have d2 : decide (k < 0) = true := by simpa using n2
    (intro fr0 h nx id hm hid; refine inOkF_of_wpc (W := ⟨fun _ => false, fun r => if r = 7 then some [(0, 5), (1, 5), (2, 5), (3, 5), (4, 5)] else none⟩) hm' Tryz.func19 rfl (by kernel_rfl) (Nat.le_of_ble_eq_true rfl) (by simp [AV.pure, AV.pureL]) (go_start ?_); generalize hQ : PostF Tryz.prog Tryz.f19 _ _ _ = Q; clear fr0)
    simp (disch := omega) only [go_sem, Nat.reduceEqDiff, Nat.reduceBEq, ↓reduceIte, reduceCtorEq, ↓k_appE, hm, p1, p2, p3, p4, hr', d1, d2]
    (repeat (with_reducible refine Or.inr ?_))
    rw [← hQ]
    exact postF_cell (id := nx) (x := zeroMS) (.inl rfl) rfl o_sMod (by simp [upd_app] <;> omega) (by simp [upd_app]) (by simp [upd_app]) ld_sMod (by simp [upd_app] <;> omega) (by intro i hi; simp only [upd_app]; repeat rw [if_neg (by omega)]) (by simp <;> omega)
  have d2 : decide (k < 0) = false := by simpa using n2
  by_cases n3 : c = 0
  · rw [hbad (fun h => absurd h.2.2.1 (by rw [n3]; exact Rat.lt_irrefl))]
    have d3 : decide (c = 0) = true := by simpa using n3
    (intro fr0 h nx id hm hid; refine inOkF_of_wpc (W := ⟨fun _ => false, fun r => if r = 7 then some [(0, 5), (1, 5), (2, 5), (3, 5), (4, 5)] else none⟩) hm' Tryz.func19 rfl (by kernel_rfl) (Nat.le_of_ble_eq_true rfl) (by simp [AV.pure, AV.pureL]) (go_start ?_); generalize hQ : PostF Tryz.prog Tryz.f19 _ _ _ = Q; clear fr0)
    simp (disch := omega) only [go_sem, Nat.reduceEqDiff, Nat.reduceBEq, ↓reduceIte, reduceCtorEq, ↓k_appE, hm, p1, p2, p3, p4, hr', d1, d2, d3]
    (repeat (with_reducible refine Or.inr ?_))
    rw [← hQ]
    exact postF_cell (id := nx) (x := zeroMS) (.inl rfl) rfl o_sMod (by simp [upd_app] <;> omega) (by simp [upd_app]) (by simp [upd_app]) ld_sMod (by simp [upd_app] <;> omega) (by intro i hi; simp only [upd_app]; repeat rw [if_neg (by omega)]) (by simp <;> omega)
  have d3 : decide (c = 0) = false := by simpa using n3
  by_cases n4 : c < 0
  · rw [hbad (fun h => absurd n4 (Rat.not_lt.2 (Rat.le_of_lt h.2.2.1)))]
    have d4 : decide (c < 0) = true := by simpa using n4
    (intro fr0 h nx id hm hid; refine inOkF_of_wpc (W := ⟨fun _ => false, fun r => if r = 7 then some [(0, 5), (1, 5), (2, 5), (3, 5), (4, 5)] else none⟩) hm' Tryz.func19 rfl (by kernel_rfl) (Nat.le_of_ble_eq_true rfl) (by simp [AV.pure, AV.pureL]) (go_start ?_); generalize hQ : PostF Tryz.prog Tryz.f19 _ _ _ = Q; clear fr0)
    simp (disch := omega) only [go_sem, Nat.reduceEqDiff, Nat.reduceBEq, ↓reduceIte, reduceCtorEq, ↓k_appE, hm, p1, p2, p3, p4, hr', d1, d2, d3, d4]
    (repeat (with_reducible refine Or.inr ?_))
    rw [← hQ]
    exact postF_cell (id := nx) (x := zeroMS) (.inl rfl) rfl o_sMod (by simp [upd_app] <;> omega) (by simp [upd_app]) (by simp [upd_app]) ld_sMod (by simp [upd_app] <;> omega) (by intro i hi; simp only [upd_app]; repeat rw [if_neg (by omega)]) (by simp <;> omega)
  have d4 : decide (c < 0) = false := by simpa using n4
  by_cases n5 : s = 0
  · rw [hbad (fun h => absurd h.2.2.2.1 (by rw [n5]; exact Rat.lt_irrefl))]
    have d5 : decide (s = 0) = true := by simpa using n5
    (intro fr0 h nx id hm hid; refine inOkF_of_wpc (W := ⟨fun _ => false, fun r => if r = 7 then some [(0, 5), (1, 5), (2, 5), (3, 5), (4, 5)] else none⟩) hm' Tryz.func19 rfl (by kernel_rfl) (Nat.le_of_ble_eq_true rfl) (by simp [AV.pure, AV.pureL]) (go_start ?_); generalize hQ : PostF Tryz.prog Tryz.f19 _ _ _ = Q; clear fr0)
    simp (disch := omega) only [go_sem, Nat.reduceEqDiff, Nat.reduceBEq, ↓reduceIte, reduceCtorEq, ↓k_appE, hm, p1, p2, p3, p4, hr', d1, d2, d3, d4, d5]
    (repeat (with_reducible refine Or.inr ?_))
    rw [← hQ]
    exact postF_cell (id := nx) (x := zeroMS) (.inl rfl) rfl o_sMod (by simp [upd_app] <;> omega) (by simp [upd_app]) (by simp [upd_app]) ld_sMod (by simp [upd_app] <;> omega) (by intro i hi; simp only [upd_app]; repeat rw [if_neg (by omega)]) (by simp <;> omega)
  have d5 : decide (s = 0) = false := by simpa using n5
  by_cases n6 : s < 0
  · rw [hbad (fun h => absurd n6 (Rat.not_lt.2 (Rat.le_of_lt h.2.2.2.1)))]
    have d6 : decide (s < 0) = true := by simpa using n6
    (intro fr0 h nx id hm hid; refine inOkF_of_wpc (W := ⟨fun _ => false, fun r => if r = 7 then some [(0, 5), (1, 5), (2, 5), (3, 5), (4, 5)] else none⟩) hm' Tryz.func19 rfl (by kernel_rfl) (Nat.le_of_ble_eq_true rfl) (by simp [AV.pure, AV.pureL]) (go_start ?_); generalize hQ : PostF Tryz.prog Tryz.f19 _ _ _ = Q; clear fr0)
    simp (disch := omega) only [go_sem, Nat.reduceEqDiff, Nat.reduceBEq, ↓reduceIte, reduceCtorEq, ↓k_appE, hm, p1, p2, p3, p4, hr', d1, d2, d3, d4, d5, d6]
    (repeat (with_reducible refine Or.inr ?_))
    rw [← hQ]
    exact postF_cell (id := nx) (x := zeroMS) (.inl rfl) rfl o_sMod (by simp [upd_app] <;> omega) (by simp [upd_app]) (by simp [upd_app]) ld_sMod (by simp [upd_app] <;> omega) (by intro i hi; simp only [upd_app]; repeat rw [if_neg (by omega)]) (by simp <;> omega)
  have d6 : decide (s < 0) = false := by simpa using n6
  have e7 : (1 - c - s < 0) ↔ ¬ (c + s ≤ 1) := by rw [Rat.not_le]; constructor <;> intro h <;> grind
  by_cases n7 : 1 - c - s < 0
  · rw [hbad (fun h => absurd h.2.2.2.2.2.2 (e7.1 n7))]
    have d7 : decide (1 - c - s < 0) = true := by simpa using n7
    (intro fr0 h nx id hm hid; refine inOkF_of_wpc (W := ⟨fun _ => false, fun r => if r = 7 then some [(0, 5), (1, 5), (2, 5), (3, 5), (4, 5)] else none⟩) hm' Tryz.func19 rfl (by kernel_rfl) (Nat.le_of_ble_eq_true rfl) (by simp [AV.pure, AV.pureL]) (go_start ?_); generalize hQ : PostF Tryz.prog Tryz.f19 _ _ _ = Q; clear fr0)
    simp (disch := omega) only [go_sem, Nat.reduceEqDiff, Nat.reduceBEq, ↓reduceIte, reduceCtorEq, ↓k_appE, hm, p1, p2, p3, p4, hr', d1, d2, d3, d4, d5, d6, d7]
    (repeat (with_reducible refine Or.inr ?_))
    rw [← hQ]
    exact postF_cell (id := nx) (x := zeroMS) (.inl rfl) rfl o_sMod (by simp [upd_app] <;> omega) (by simp [upd_app]) (by simp [upd_app]) ld_sMod (by simp [upd_app] <;> omega) (by intro i hi; simp only [upd_app]; repeat rw [if_neg (by omega)]) (by simp <;> omega)
  have d7 : decide (1 - c - s < 0) = false := by simpa using n7
  have hok : modOk m c s r k := by
    have hr2 : 1 ≤ m.room ∧ m.room ≤ 8 := by simpa using hr
    refine ⟨hr2.1, hr2.2, ?_, ?_, Rat.not_lt.1 n1, Rat.not_lt.1 n2, ?_⟩
    · exact Rat.lt_of_le_of_ne (Rat.not_lt.1 n4) (fun e => n3 e.symm)
    · exact Rat.lt_of_le_of_ne (Rat.not_lt.1 n6) (fun e => n5 e.symm)
    · exact Classical.byContradiction fun h => n7 (e7.2 h)
  have hmod : modR m = some ⟨m.room.toNat, c, s, r, k⟩ := by simp only [modR, e1, e2, e3, e4, if_pos hok]
  have hrn : ((m.room.toNat : Nat) : Int) = m.room := Int.toNat_of_nonneg (by have := hok.1; omega)
  rw [hmod, modS_s]
  (intro fr0 h nx id hm hid; refine inOkF_of_wpc (W := ⟨fun _ => false, fun r => if r = 7 then some [(0, 5), (1, 5), (2, 5), (3, 5), (4, 5)] else none⟩) hm' Tryz.func19 rfl (by kernel_rfl) (Nat.le_of_ble_eq_true rfl) (by simp [AV.pure, AV.pureL]) (go_start ?_); generalize hQ : PostF Tryz.prog Tryz.f19 _ _ _ = Q; clear fr0)
  simp (disch := omega) only [go_sem, Nat.reduceEqDiff, Nat.reduceBEq, ↓reduceIte, reduceCtorEq, ↓k_appE, hm, p1, p2, p3, p4, hr', d1, d2, d3, d4, d5, d6, d7]
  (repeat (with_reducible refine Or.inr ?_))
  rw [← hQ]
  exact postF_cell (id := nx) (x := MR.sv ⟨m.room.toNat, c, s, r, k⟩) (.inl rfl) rfl o_sMod (by simp [upd_app] <;> omega) (by simp [upd_app]) (by simp [upd_app, hrn]) ld_sMod (by simp [upd_app] <;> omega) (by intro i hi; simp only [upd_app]; repeat rw [if_neg (by omega)]) (by simp <;> omega)
theorem c_l09Parse : callable Tryz.prog 19 = true := by kernel_rfl
end Go.Proofs.YtgfencjehdbjcaaGreatDoor
