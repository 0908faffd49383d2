/- Part 10 of the ground of the proofs of this seat. -/
import Derived.Lib.ItoaNum
import Derived.Test.YtjilbkkappobpaaGreatDoorM9

set_option linter.unusedVariables false
set_option linter.unusedSimpArgs false
set_option maxRecDepth 100000
namespace Go.Proofs.YtjilbkkappobpaaGreatDoor
open Go

theorem sg_prod {p q : Bool} {x y : Nat} : sg p x * sg q y = sg (p != q) (x * y) := by cases p <;> cases q <;> simp [sg, Int.neg_mul, Int.mul_neg, Int.natCast_mul]
theorem mul_low {a b : Rat} {p q : Bool} {x y d e : Nat} (ha : qd a = (p, x, d)) (hb : qd b = (q, y, e)) (hd : d ≠ 0) (he : e ≠ 0) : qd (a * b) = lowQ (p != q) (x * y) (d * e) := by
  rw [← low_mkRat (Nat.mul_ne_zero hd he), ← sg_prod, Rat.mul_def']
  have h1 := qd_sg a
  have h2 := qd_sg b
  rw [ha] at h1; rw [hb] at h2
  rw [h1, h2, show a.den = d from congrArg (·.2.2) ha, show b.den = e from congrArg (·.2.2) hb]
theorem qd_ne {a : Rat} {p : Bool} {x d : Nat} (h : qd a = (p, x, d)) : (a.num ≠ 0 ↔ x ≠ 0) ∧ d ≠ 0 := by
  have h1 : a.num.natAbs = x := congrArg (·.2.1) h
  have h2 : a.den = d := congrArg (·.2.2) h
  exact ⟨by omega, by rw [← h2]; exact a.den_nz⟩
theorem qd_inv {b : Rat} {q : Bool} {y e : Nat} (hb : qd b = (q, y, e)) (h0 : b.num ≠ 0) : qd b⁻¹ = (q, e, y) := by
  have hy : y ≠ 0 := (qd_ne hb).1.1 h0
  have he : e ≠ 0 := (qd_ne hb).2
  have h1 : b.num.natAbs = y := congrArg (·.2.1) hb
  have h2 : b.den = e := congrArg (·.2.2) hb
  have h3 : decide (b.num < 0) = q := congrArg (·.1) hb
  have e1 := self_mkRat b
  rw [hb] at e1
  simp only at e1
  have e2 : b⁻¹ = mkRat (sg q e) y := by
    refine Rat.inv_eq_of_mul_eq_one ?_
    rw [e1, Rat.mkRat_mul_mkRat, sg_prod]
    have : (q != q) = false := by cases q <;> rfl
    rw [this, Nat.mul_comm y e]
    exact Rat.mkRat_self (1 : Rat) ▸ (by
      rw [show sg false (e * y) = (1 : Int) * ((e * y : Nat) : Int) by simp [sg], show e * y = 1 * (e * y) by omega]
      rw [show ((1 * (e * y) : Nat) : Int) = ((e * y : Nat) : Int) by simp]
      rw [Rat.mkRat_mul_right (Nat.mul_ne_zero he hy)]
      rfl)
  have hg : Nat.gcd e y = 1 := by
    have := b.reduced
    rw [Nat.Coprime, h1, h2] at this
    rw [Nat.gcd_comm]; exact this
  rw [e2, low_mkRat hy, lowQ, hg, Nat.div_one, Nat.div_one]
  simp [he]
theorem over_low {a b : Rat} {p q : Bool} {x y d e : Nat} (ha : qd a = (p, x, d)) (hb : qd b = (q, y, e)) (h0 : b.num ≠ 0) : qd (a / b) = lowQ (p != q) (x * e) (d * y) := by
 rw [Rat.div_def]
 exact mul_low ha (qd_inv hb h0) (qd_ne ha).2 ((qd_ne hb).1.1 h0)
theorem fits_inv {m : Nat} {a : Rat} (h : fits m a) (h0 : a.num ≠ 0) : fits m a⁻¹ := by
  have := qd_inv (b := a) rfl h0
  have h1 : a⁻¹.num.natAbs = a.den := congrArg (·.2.1) this
  have h2 : a⁻¹.den = a.num.natAbs := congrArg (·.2.2) this
  exact ⟨by rw [h1]; exact h.2, by rw [h2]; exact h.1⟩
theorem fits_over {m n : Nat} {a b : Rat} (h1 : fits m a) (h2 : fits n b) (h0 : b.num ≠ 0) : fits (m + n) (a / b) := by
 rw [Rat.div_def]; exact fits_mul h1 (fits_inv h2 h0) (fits_pos h1)
theorem cross_low {p : Bool} {x y d e : Nat} (hx : x ≠ 0) (hy : y ≠ 0) (hd : d ≠ 0) (he : e ≠ 0) (h1 : Nat.gcd x d = 1) (h2 : Nat.gcd y e = 1) :
  lowQ p (x * y) (d * e) = (p, x / Nat.gcd x e * (y / Nat.gcd y d), e / Nat.gcd x e * (d / Nat.gcd y d)) := by
 have k1 : 0 < Nat.gcd x e := Nat.gcd_pos_of_pos_left _ (by omega)
 have k2 : 0 < Nat.gcd y d := Nat.gcd_pos_of_pos_left _ (by omega)
 obtain ⟨g, hg⟩ : ∃ g, Nat.gcd x e = g := ⟨_, rfl⟩
 obtain ⟨k, hk⟩ : ∃ k, Nat.gcd y d = k := ⟨_, rfl⟩
 obtain ⟨x', hx'⟩ : g ∣ x := by rw [← hg]; exact Nat.gcd_dvd_left x e
 obtain ⟨e', he'⟩ : g ∣ e := by rw [← hg]; exact Nat.gcd_dvd_right x e
 obtain ⟨y', hy'⟩ : k ∣ y := by rw [← hk]; exact Nat.gcd_dvd_left y d
 obtain ⟨d', hd'⟩ : k ∣ d := by rw [← hk]; exact Nat.gcd_dvd_right y d
 rw [hg] at k1; rw [hk] at k2
 have q1 : Nat.gcd x' e' = 1 := by
  have : g * Nat.gcd x' e' = g * 1 := by rw [← Nat.gcd_mul_left, ← hx', ← he', hg]; omega
  exact Nat.eq_of_mul_eq_mul_left k1 this
 have q2 : Nat.gcd y' d' = 1 := by
  have : k * Nat.gcd y' d' = k * 1 := by rw [← Nat.gcd_mul_left, ← hy', ← hd', hk]; omega
  exact Nat.eq_of_mul_eq_mul_left k2 this
 have q3 : Nat.gcd x' d' = 1 := Nat.eq_one_of_dvd_one (by rw [← h1, hx', hd']; exact Nat.dvd_trans (Nat.gcd_dvd_gcd_of_dvd_left _ (Nat.dvd_mul_left x' g)) (Nat.gcd_dvd_gcd_of_dvd_right _ (Nat.dvd_mul_left d' k)))
 have q4 : Nat.gcd y' e' = 1 := Nat.eq_one_of_dvd_one (by rw [← h2, hy', he']; exact Nat.dvd_trans (Nat.gcd_dvd_gcd_of_dvd_left _ (Nat.dvd_mul_left y' k)) (Nat.gcd_dvd_gcd_of_dvd_right _ (Nat.dvd_mul_left e' g)))
 have hgk : 0 < g * k := Nat.mul_pos k1 k2
 have e1 : x * y = g * k * (x' * y') := by rw [hx', hy']; simp only [Nat.mul_comm, Nat.mul_left_comm, Nat.mul_assoc]
 have e2 : d * e = g * k * (e' * d') := by rw [hd', he']; simp only [Nat.mul_comm, Nat.mul_left_comm, Nat.mul_assoc]
 have q : Nat.gcd (x' * y') (e' * d') = 1 := by
  have c1 : Nat.Coprime x' (e' * d') := Nat.Coprime.mul_right q1 q3
  have c2 : Nat.Coprime y' (e' * d') := Nat.Coprime.mul_right q4 q2
  exact Nat.Coprime.mul_left c1 c2
 have hxy : x * y ≠ 0 := Nat.mul_ne_zero hx hy
 rw [lowQ, e1, e2, Nat.gcd_mul_left, q, Nat.mul_one, Nat.mul_div_cancel_left _ hgk, Nat.mul_div_cancel_left _ hgk]
 rw [e1] at hxy
 simp only [hxy, ne_eq, not_false_eq_true, decide_true, Bool.and_true]
 rw [hg, hk, hx', he', hy', hd', Nat.mul_div_cancel_left _ k1, Nat.mul_div_cancel_left _ k1, Nat.mul_div_cancel_left _ k2, Nat.mul_div_cancel_left _ k2]
theorem less_of {a b : Rat} {p q : Bool} {x y d e : Nat} (ha : qd a = (p, x, d)) (hb : qd b = (q, y, e)) :
    (p ≠ q → decide (a < b) = p) ∧ (p = q → decide (a < b) = (!p && decide (cmpI (x * e) (y * d) < 0) || p && decide (cmpI (x * e) (y * d) > 0))) ∧ (decide (a = b) = (decide (p = q) && decide (cmpI (x * e) (y * d) = 0))) := by
  have hc := cmp_lt a b
  rw [ha, hb] at hc
  have hn : ∀ m n : Nat, cmpI m n = cmpN m n := fun m n => by simp [cmpI, cmpN]
  have sx : p = true → x ≠ 0 := by
    intro h
    have h1 : decide (a.num < 0) = p := congrArg (·.1) ha
    have h2 : a.num.natAbs = x := congrArg (·.2.1) ha
    rw [h] at h1; simp at h1; omega
  have sy : q = true → y ≠ 0 := by
    intro h
    have h1 : decide (b.num < 0) = q := congrArg (·.1) hb
    have h2 : b.num.natAbs = y := congrArg (·.2.1) hb
    rw [h] at h1; simp at h1; omega
  have hd := (qd_ne ha).2
  have he := (qd_ne hb).2
  simp only [cmpQ, sgnQ] at hc
  simp only [hn]
  have mx : x = 0 → x * e = 0 := fun h => by rw [h, Nat.zero_mul]
  have my : y = 0 → y * d = 0 := fun h => by rw [h, Nat.zero_mul]
  have nx : x ≠ 0 → 0 < x * e := fun h => Nat.mul_pos (by omega) (by omega)
  have ny : y ≠ 0 → 0 < y * d := fun h => Nat.mul_pos (by omega) (by omega)
  have hlt : decide (a < b) = decide (cmpQ (p, x, d) (q, y, e) < 0) := decide_eq_decide.2 (by simp only [cmpQ, sgnQ]; exact hc.1.symm)
  have heq : decide (a = b) = decide (cmpQ (p, x, d) (q, y, e) = 0) := decide_eq_decide.2 (by simp only [cmpQ, sgnQ]; exact hc.2.symm)
  rw [hlt, heq]
  simp only [cmpQ, sgnQ, cmpN]
  generalize x * e = X at *
  generalize y * d = Y at *
  clear hc hlt heq hn
  rcases Nat.lt_trichotomy X Y with h | h | h
  · have h1 : ¬ Y < X := by omega
    simp only [h, h1, if_true, if_false]
    by_cases x0 : x = 0 <;> by_cases y0 : y = 0 <;> cases p <;> cases q <;> simp_all <;> first | omega | exact ⟨rfl, rfl⟩ | rfl
  · have h1 : ¬ Y < X := by omega
    have h2 : ¬ X < Y := by omega
    simp only [h1, h2, if_false]
    by_cases x0 : x = 0 <;> by_cases y0 : y = 0 <;> cases p <;> cases q <;> simp_all <;> first | omega | exact ⟨rfl, rfl⟩ | rfl
  · have h1 : ¬ X < Y := by omega
    simp only [h, h1, if_true, if_false]
    by_cases x0 : x = 0 <;> by_cases y0 : y = 0 <;> cases p <;> cases q <;> simp_all <;> first | omega | exact ⟨rfl, rfl⟩ | rfl
theorem natS1 : natS 1 = .sl 2 [.int .i64 1] [] false := by simp [natS, enc_one B9_gt, natA]
theorem w_sCmp1 {a : Nat} (ha : (enc B9 a).length < 9223372036854775808) : CW Tryz.prog 78 [natS a, .sl 2 [.int .i64 1] [] true] (.int .i64 (cmpI a 1)) :=
 cw (by kernel_rfl) (by simp [AV.pure, AV.pureL, natA_pure, natI_pure, natS_pure]) (by simp [AV.pure, AV.pureL, natA_pure, natI_pure, natS_pure]) ((s_Cmp hm' a 1 ha (by rw [enc_one B9_gt]; decide)).args (SubL.cons (Sub.refl _) (SubL.cons (by rw [natS1]; exact sub_sl) .nil)))
attribute [go_sem] w_sCmp1
theorem w_sMake {b : Bool} {m n : Nat} (hm : (enc B9 m).length ≤ 1099511627775) (hn : (enc B9 n).length ≤ 1099511627775) (h0 : n ≠ 0) : CW Tryz.prog 81 [.bool b, natS m, natS n] (ratS (lowQ b m n)) := by
  refine cw (by kernel_rfl) (by simp [AV.pure, AV.pureL, natA_pure, natI_pure, natS_pure]) (by simp [AV.pure, AV.pureL, natA_pure, natI_pure, natS_pure]) ?_
  obtain ⟨g, hg⟩ : ∃ g, Nat.gcd m n = g := ⟨_, rfl⟩
  have hg0 : g ≠ 0 := by rw [← hg]; exact Nat.ne_of_gt (Nat.gcd_pos_of_pos_right _ (by omega))
  have hgn : (enc B9 g).length ≤ 1099511627775 := Nat.le_trans (enc_len_mono B9_gt (by rw [← hg]; exact Nat.le_of_dvd (by omega) (Nat.gcd_dvd_right m n))) hn
  have h2 := w_sGcd (a := m) (b := n) hm hn
  have h3 := w_sDiv (a := m) (b := g) hm hg0 hgn
  have h4 := w_sDiv (a := n) (b := g) hn hg0 hgn
  have h5 := w_sCmp1 (a := g) (by omega)
  rw [lowQ]
  rw [hg] at h2 ⊢
  simp only [natS] at h2 h3 h4 h5
  have hpos : ∀ k : Nat, (0 < (enc B9 k).length) ↔ k ≠ 0 := fun k => ⟨fun h e => by rw [e, enc_zero] at h; simp at h, fun h => enc_len_pos B9_gt h⟩
  have hfin : ∀ (x : Nat), (x ≠ 0 ↔ m ≠ 0) → (b && decide (m ≠ 0)) = (b && decide (0 < (enc B9 x).length)) := fun x h => by simp [hpos, h]
  by_cases h1g : g = 1
  · subst h1g
    rw [cmpI_eq] at h5
    rw [Nat.div_one, Nat.div_one, hfin m Iff.rfl]
    cases b
    · (refine callOk_of_wpc (W := fun _ => false) false hm' Tryz.func81 rfl (by kernel_rfl) (Nat.le_of_ble_eq_true rfl) (go_start ?_); generalize hQ : Post Tryz.prog Tryz.f81 _ _ _ _ _ = Q; simp only [stIn, matL, matA, st00, natS])
      simp (disch := omega) only [go_sem, ↓k_cond, ↓x_idx, ↓k_block, Nat.reduceEqDiff, Nat.reduceBEq, ↓reduceIte, reduceCtorEq, h2, h5]
      (repeat (with_reducible refine Or.inr ?_))
      rw [← hQ]
      exact post_cell1 (id := 0) (x := .agg [.bool (false && decide (0 < (enc B9 m).length)), natS m, natS n]) (.inl rfl) rfl o_sRat (by simp [upd_app] <;> omega) (by simp [upd_app]) (by simp [upd_app, natS]) (by simp [ratS, ldA, partA, g_sRat, s_sRat, AV.cells]) (by simp [AV.pure, AV.pureL, natS_pure])
    · (refine callOk_of_wpc (W := fun _ => false) false hm' Tryz.func81 rfl (by kernel_rfl) (Nat.le_of_ble_eq_true rfl) (go_start ?_); generalize hQ : Post Tryz.prog Tryz.f81 _ _ _ _ _ = Q; simp only [stIn, matL, matA, st00, natS])
      simp (disch := omega) only [go_sem, ↓k_cond, ↓x_idx, ↓k_block, Nat.reduceEqDiff, Nat.reduceBEq, ↓reduceIte, reduceCtorEq, h2, h5]
      (repeat (with_reducible refine Or.inr ?_))
      rw [← hQ]
      exact post_cell1 (id := 0) (x := .agg [.bool (true && decide (0 < (enc B9 m).length)), natS m, natS n]) (.inl rfl) rfl o_sRat (by simp [upd_app] <;> omega) (by simp [upd_app]) (by simp [upd_app, natS]) (by simp [ratS, ldA, partA, g_sRat, s_sRat, AV.cells]) (by simp [AV.pure, AV.pureL, natS_pure])
  · have hc0 : cmpI g 1 ≠ 0 := cmpI_ne (by omega)
    have hm0 : m / g ≠ 0 ↔ m ≠ 0 := by
      constructor
      · rintro h rfl; simp at h
      · intro h h'
        have := Nat.div_mul_cancel (by rw [← hg]; exact Nat.gcd_dvd_left m n : g ∣ m)
        rw [h'] at this; omega
    rw [hfin (m / g) hm0]
    have hdl := enc_div_len (B := B9) (m := m) (g := g) B9_gt
    cases b
    · (refine callOk_of_wpc (W := fun _ => false) false hm' Tryz.func81 rfl (by kernel_rfl) (Nat.le_of_ble_eq_true rfl) (go_start ?_); generalize hQ : Post Tryz.prog Tryz.f81 _ _ _ _ _ = Q; simp only [stIn, matL, matA, st00, natS])
      simp (disch := omega) only [go_sem, ↓k_cond, ↓x_idx, ↓k_block, Nat.reduceEqDiff, Nat.reduceBEq, ↓reduceIte, reduceCtorEq, h2, h3, h4, h5]
      (repeat (with_reducible refine Or.inr ?_))
      rw [← hQ]
      exact post_cell1 (id := 0) (x := .agg [.bool (false && decide (0 < (enc B9 (m / g)).length)), natS (m / g), natS (n / g)]) (.inl rfl) rfl o_sRat (by simp [upd_app] <;> omega) (by simp [upd_app]) (by simp [upd_app, natS]) (by simp [ratS, ldA, partA, g_sRat, s_sRat, AV.cells]) (by simp [AV.pure, AV.pureL, natS_pure])
    · (refine callOk_of_wpc (W := fun _ => false) false hm' Tryz.func81 rfl (by kernel_rfl) (Nat.le_of_ble_eq_true rfl) (go_start ?_); generalize hQ : Post Tryz.prog Tryz.f81 _ _ _ _ _ = Q; simp only [stIn, matL, matA, st00, natS])
      simp (disch := omega) only [go_sem, ↓k_cond, ↓x_idx, ↓k_block, Nat.reduceEqDiff, Nat.reduceBEq, ↓reduceIte, reduceCtorEq, h2, h3, h4, h5]
      (repeat (with_reducible refine Or.inr ?_))
      rw [← hQ]
      exact post_cell1 (id := 0) (x := .agg [.bool (true && decide (0 < (enc B9 (m / g)).length)), natS (m / g), natS (n / g)]) (.inl rfl) rfl o_sRat (by simp [upd_app] <;> omega) (by simp [upd_app]) (by simp [upd_app, natS]) (by simp [ratS, ldA, partA, g_sRat, s_sRat, AV.cells]) (by simp [AV.pure, AV.pureL, natS_pure])
attribute [go_sem] w_sMake
theorem w_sInt {n : Int} (h0 : -9223372036854775807 ≤ n) (h1 : n < 9223372036854775808) : CW Tryz.prog 51 [.int .i64 n] (rS 64 (n : Rat)) := by
  refine cw (by kernel_rfl) (by simp [AV.pure, AV.pureL, natA_pure, natI_pure, natS_pure]) (by simp [AV.pure, AV.pureL, natA_pure, natI_pure, natS_pure]) ?_
  rw [rS_eq (fits_int (by omega) (by omega)), qd_int, ratS]
  refine CallOk.res (r := .agg [.bool (decide (n < 0)), natS n.natAbs, .sl 2 [.int .i64 1] [] true]) ?_ (sub_agg (SubL.cons (Sub.refl _) (SubL.cons (Sub.refl _) (SubL.cons (by rw [natS1]; exact sub_sl) .nil))))
  by_cases hn : n < 0
  · have h3 := w_sNat (n := 0 - n) (by omega) (by omega)
    rw [show (0 - n).toNat = n.natAbs by omega] at h3
    simp only [natS] at h3
    (refine callOk_of_wpc (W := fun _ => false) false hm' Tryz.func51 rfl (by kernel_rfl) (Nat.le_of_ble_eq_true rfl) (go_start ?_); generalize hQ : Post Tryz.prog Tryz.f51 _ _ _ _ _ = Q; simp only [stIn, matL, matA, st00])
    simp (disch := omega) only [go_sem, ↓k_cond, ↓x_idx, ↓k_block, Nat.reduceEqDiff, Nat.reduceBEq, ↓reduceIte, reduceCtorEq, h3]
    (repeat (with_reducible refine Or.inr ?_))
    rw [← hQ]
    exact post_cell1 (id := 0) (x := .agg [.bool (decide (n < 0)), natS n.natAbs, .sl 2 [.int .i64 1] [] true]) (.inl rfl) rfl o_sRat (by simp [upd_app] <;> omega) (by simp [upd_app]) (by simp [upd_app, natS, hn]) (by simp [ldA, partA, g_sRat, s_sRat, AV.cells]) (by simp [AV.pure, AV.pureL, natS_pure])
  · have h3 := w_sNat (n := n) (by omega) (by omega)
    rw [show n.toNat = n.natAbs by omega] at h3
    simp only [natS] at h3
    (refine callOk_of_wpc (W := fun _ => false) false hm' Tryz.func51 rfl (by kernel_rfl) (Nat.le_of_ble_eq_true rfl) (go_start ?_); generalize hQ : Post Tryz.prog Tryz.f51 _ _ _ _ _ = Q; simp only [stIn, matL, matA, st00])
    simp (disch := omega) only [go_sem, ↓k_cond, ↓x_idx, ↓k_block, Nat.reduceEqDiff, Nat.reduceBEq, ↓reduceIte, reduceCtorEq, h3]
    (repeat (with_reducible refine Or.inr ?_))
    rw [← hQ]
    exact post_cell1 (id := 0) (x := .agg [.bool (decide (n < 0)), natS n.natAbs, .sl 2 [.int .i64 1] [] true]) (.inl rfl) rfl o_sRat (by simp [upd_app] <;> omega) (by simp [upd_app]) (by simp [upd_app, natS, hn]) (by simp [ldA, partA, g_sRat, s_sRat, AV.cells]) (by simp [AV.pure, AV.pureL, natS_pure])
attribute [go_sem] w_sInt
theorem int_cast_1 : ((1 : Int) : Rat) = 1 := rfl
theorem int_cast_0 : ((0 : Int) : Rat) = 0 := rfl
attribute [go_sem] w_sInt
theorem w_sOne : CW Tryz.prog 62 [] (rS 64 1) := by
 refine cw (by kernel_rfl) (by simp [AV.pure, AV.pureL, natA_pure, natI_pure, natS_pure]) (by simp [AV.pure, AV.pureL, natA_pure, natI_pure, natS_pure]) ?_
 (refine callOk_of_wpc (W := fun _ => false) false hm' Tryz.func62 rfl (by kernel_rfl) (Nat.le_of_ble_eq_true rfl) (go_start ?_); generalize hQ : Post Tryz.prog Tryz.f62 _ _ _ _ _ = Q; simp only [stIn, matL, matA, st00])
 simp (disch := omega) only [go_sem, ↓k_cond, ↓x_idx, ↓k_block, Nat.reduceEqDiff, Nat.reduceBEq, ↓reduceIte, reduceCtorEq]
 (repeat (with_reducible refine Or.inr ?_))
 rw [← hQ]
 exact post_cell1 (id := 0) (x := rS 64 1) (.inl rfl) rfl o_sRat (by simp [upd_app] <;> omega) (by simp [upd_app]) (by simp [upd_app]) ld_sRat (by simp [AV.pure, AV.pureL])
attribute [go_sem] w_sOne
theorem w_sNone : CW Tryz.prog 26 [] (rS 64 0) := by
 refine cw (by kernel_rfl) (by simp [AV.pure, AV.pureL, natA_pure, natI_pure, natS_pure]) (by simp [AV.pure, AV.pureL, natA_pure, natI_pure, natS_pure]) ?_
 (refine callOk_of_wpc (W := fun _ => false) false hm' Tryz.func26 rfl (by kernel_rfl) (Nat.le_of_ble_eq_true rfl) (go_start ?_); generalize hQ : Post Tryz.prog Tryz.f26 _ _ _ _ _ = Q; simp only [stIn, matL, matA, st00])
 simp (disch := omega) only [go_sem, ↓k_cond, ↓x_idx, ↓k_block, Nat.reduceEqDiff, Nat.reduceBEq, ↓reduceIte, reduceCtorEq]
 (repeat (with_reducible refine Or.inr ?_))
 rw [← hQ]
 exact post_cell1 (id := 0) (x := rS 64 0) (.inl rfl) rfl o_sRat (by simp [upd_app] <;> omega) (by simp [upd_app]) (by simp [upd_app]) ld_sRat (by simp [AV.pure, AV.pureL])
attribute [go_sem] w_sNone
theorem w_sZero {m : Nat} {a : Rat} (h : m ≤ 274877906944) : CW Tryz.prog 39 [rS m a] (.bool (decide (a = 0))) := by
  refine cw (by kernel_rfl) (by simp [AV.pure, AV.pureL, natA_pure, natI_pure, natS_pure]) (by simp [AV.pure, AV.pureL, natA_pure, natI_pure, natS_pure]) ?_
  refine callOk_told (x := rS m a) told_rS (by simp) (by simp [AV.pure, AV.pureL, natA_pure, natI_pure, natS_pure]) fun ha => ?_
  have hl := len9 ha.1
  rw [rS_eq ha, ratS, qd]
  by_cases h0 : a.num = 0
  · rw [show decide (a = 0) = true by simpa using num_zero.1 h0, h0]
    (refine callOk_of_wpc (W := fun _ => false) false hm' Tryz.func39 rfl (by kernel_rfl) (Nat.le_of_ble_eq_true rfl) (go_start ?_); generalize hQ : Post Tryz.prog Tryz.f39 _ _ _ _ _ = Q; simp only [stIn, matL, matA, st00, natS])
    simp (disch := omega) only [go_sem, ↓k_cond, ↓x_idx, ↓k_block, Nat.reduceEqDiff, Nat.reduceBEq, ↓reduceIte, reduceCtorEq, Int.natAbs_zero, enc_zero, natA_nil, List.length_nil]
    rw [← hQ]
    exact post_one (.inl rfl) rfl (by simp [upd_app] <;> omega) rfl
  · rw [show decide (a = 0) = false by simpa using fun e => h0 (num_zero.2 e)]
    have hl0 := enc_len_pos B9_gt (show a.num.natAbs ≠ 0 by omega)
    (refine callOk_of_wpc (W := fun _ => false) false hm' Tryz.func39 rfl (by kernel_rfl) (Nat.le_of_ble_eq_true rfl) (go_start ?_); generalize hQ : Post Tryz.prog Tryz.f39 _ _ _ _ _ = Q; simp only [stIn, matL, matA, st00, natS])
    simp (disch := omega) only [go_sem, ↓k_cond, ↓x_idx, ↓k_block, Nat.reduceEqDiff, Nat.reduceBEq, ↓reduceIte, reduceCtorEq]
    rw [← hQ]
    exact post_one (.inl rfl) rfl (by simp [upd_app] <;> omega) rfl
attribute [go_sem] w_sZero
theorem w_sOpposite {m : Nat} {a : Rat} (h : m ≤ 274877906944) : CW Tryz.prog 107 [rS m a] (rS m (-a)) := by
  refine cw (by kernel_rfl) (by simp [AV.pure, AV.pureL, natA_pure, natI_pure, natS_pure]) (by simp [AV.pure, AV.pureL, natA_pure, natI_pure, natS_pure]) ?_
  refine callOk_told (x := rS m a) told_rS (by simp) (by simp [AV.pure, AV.pureL, natA_pure, natI_pure, natS_pure]) fun ha => ?_
  have hl := len9 ha.1
  rw [rS_eq (fits_neg ha), qd_neg, rS_eq ha, ratS, qd, ratS]
  have hx : 0 < (enc B9 a.num.natAbs).length ↔ a.num.natAbs ≠ 0 := ⟨fun h e => by rw [e, enc_zero] at h; simp at h, fun h => enc_len_pos B9_gt h⟩
  by_cases hn : a.num < 0
  · simp only [hn, decide_true]
    (refine callOk_of_wpc (W := fun _ => false) false hm' Tryz.func107 rfl (by kernel_rfl) (Nat.le_of_ble_eq_true rfl) (go_start ?_); generalize hQ : Post Tryz.prog Tryz.f107 _ _ _ _ _ = Q; simp only [stIn, matL, matA, st00, natS])
    simp (disch := omega) only [go_sem, ↓k_cond, ↓x_idx, ↓k_block, Nat.reduceEqDiff, Nat.reduceBEq, ↓reduceIte, reduceCtorEq]
    rw [← hQ]
    exact post_cell1 (id := 1) (x := .agg [.bool false, natS a.num.natAbs, natS a.den]) (.inl rfl) rfl o_sRat (by simp [upd_app] <;> omega) (by simp [upd_app]) (by simp [upd_app, natS]) (by simp [ldA, partA, g_sRat, s_sRat, AV.cells]) (by simp [AV.pure, AV.pureL, natS_pure])
  · simp only [hn, decide_false]
    by_cases h0 : a.num.natAbs = 0
    · rw [show decide (a.num.natAbs ≠ 0) = false by simp [h0]]
      (refine callOk_of_wpc (W := fun _ => false) false hm' Tryz.func107 rfl (by kernel_rfl) (Nat.le_of_ble_eq_true rfl) (go_start ?_); generalize hQ : Post Tryz.prog Tryz.f107 _ _ _ _ _ = Q; simp only [stIn, matL, matA, st00, natS])
      simp (disch := omega) only [go_sem, ↓k_cond, ↓x_idx, ↓k_block, Nat.reduceEqDiff, Nat.reduceBEq, ↓reduceIte, reduceCtorEq]
      rw [← hQ]
      exact post_cell1 (id := 1) (x := .agg [.bool false, natS a.num.natAbs, natS a.den]) (.inl rfl) rfl o_sRat (by simp [upd_app] <;> omega) (by simp [upd_app]) (by simp [upd_app, natS]) (by simp [ldA, partA, g_sRat, s_sRat, AV.cells]) (by simp [AV.pure, AV.pureL, natS_pure])
    · rw [show decide (a.num.natAbs ≠ 0) = true by simp [h0]]
      (refine callOk_of_wpc (W := fun _ => false) false hm' Tryz.func107 rfl (by kernel_rfl) (Nat.le_of_ble_eq_true rfl) (go_start ?_); generalize hQ : Post Tryz.prog Tryz.f107 _ _ _ _ _ = Q; simp only [stIn, matL, matA, st00, natS])
      simp (disch := omega) only [go_sem, ↓k_cond, ↓x_idx, ↓k_block, Nat.reduceEqDiff, Nat.reduceBEq, ↓reduceIte, reduceCtorEq]
      rw [← hQ]
      exact post_cell1 (id := 1) (x := .agg [.bool true, natS a.num.natAbs, natS a.den]) (.inl rfl) rfl o_sRat (by simp [upd_app] <;> omega) (by simp [upd_app]) (by simp [upd_app, natS]) (by simp [ldA, partA, g_sRat, s_sRat, AV.cells]) (by simp [AV.pure, AV.pureL, natS_pure])
attribute [go_sem] w_sOne w_sNone w_sZero w_sOpposite
attribute [go_sem] w_sOpposite
set_option maxHeartbeats 1000000 in
theorem w_sSum {m n : Nat} {a b : Rat} (h : m + n ≤ 274877906944) : CW Tryz.prog 27 [rS m a, rS n b] (rS (m + n + 1) (a + b)) := by
  refine cw (by kernel_rfl) (by simp [AV.pure, AV.pureL, natA_pure, natI_pure, natS_pure]) (by simp [AV.pure, AV.pureL, natA_pure, natI_pure, natS_pure]) ?_
  refine callOk_told (x := rS m a) told_rS (by simp) (by simp [AV.pure, AV.pureL, natA_pure, natI_pure, natS_pure]) fun ha => ?_
  refine callOk_told (x := rS n b) told_rS (by simp) (by simp [AV.pure, AV.pureL, natA_pure, natI_pure, natS_pure]) fun hb => ?_
  rw [rS_eq ha, rS_eq hb, rS_eq (fits_add ha hb)]
  have lx := len9 ha.1
  have ld := len9 ha.2
  have ly := len9 hb.1
  have le := len9 hb.2
  have hd0 := den_ne a
  have he0 := den_ne b
  have ea := self_mkRat a
  have eb := self_mkRat b
  have hxe : (enc B9 (a.num.natAbs * b.den)).length ≤ m + n := len9 (mul_lt_pow ha.1 hb.2)
  have hyd : (enc B9 (b.num.natAbs * a.den)).length ≤ m + n := by rw [Nat.add_comm m n]; exact len9 (mul_lt_pow hb.1 ha.2)
  have hde' : (enc B9 (a.den * b.den)).length ≤ m + n := len9 (mul_lt_pow ha.2 hb.2)
  have hsum : (enc B9 (a.num.natAbs * b.den + b.num.natAbs * a.den)).length ≤ m + n + 1 := by
    refine len9 ?_
    have h1 := mul_lt_pow ha.1 hb.2
    have h2 := mul_lt_pow hb.1 ha.2
    rw [Nat.add_comm n m] at h2
    rw [Nat.pow_succ]; omega
  simp only [qd] at ea eb
  obtain ⟨p, hp⟩ : ∃ p, decide (a.num < 0) = p := ⟨_, rfl⟩
  obtain ⟨q, hq⟩ : ∃ p, decide (b.num < 0) = p := ⟨_, rfl⟩
  obtain ⟨v, hv⟩ : ∃ v, qd (a + b) = v := ⟨_, rfl⟩
  have hr : qd a = (p, a.num.natAbs, a.den) ∧ qd b = (q, b.num.natAbs, b.den) := ⟨by rw [← hp]; rfl, by rw [← hq]; rfl⟩
  rw [hv, hr.1, hr.2]
  rw [hp] at ea; rw [hq] at eb
  clear hp hq hr ha hb
  obtain ⟨x, hx⟩ : ∃ x, a.num.natAbs = x := ⟨_, rfl⟩
  obtain ⟨y, hy⟩ : ∃ x, b.num.natAbs = x := ⟨_, rfl⟩
  obtain ⟨d, hd⟩ : ∃ x, a.den = x := ⟨_, rfl⟩
  obtain ⟨e, he⟩ : ∃ x, b.den = x := ⟨_, rfl⟩
  rw [hx, hd] at ea; rw [hy, he] at eb
  rw [hx] at lx hxe hsum; rw [hd] at ld hyd hde' hd0 hsum; rw [hy] at ly hyd hsum; rw [he] at le hxe hde' he0 hsum
  rw [hx, hy, hd, he]
  clear hx hy hd he
  have hne : ∀ {p q : Bool}, p ≠ q → (p == q) = false := by decide
  have m1 := w_sNatMul (a := x) (b := e) (by omega) (by omega)
  have m2 := w_sNatMul (a := y) (b := d) (by omega) (by omega)
  have m3 := w_sNatMul (a := d) (b := e) (by omega) (by omega)
  have hC0 : d * e ≠ 0 := Nat.mul_ne_zero hd0 he0
  rw [scale_mkRat he0] at ea
  rw [scale_mkRat hd0, Nat.mul_comm e d] at eb
  obtain ⟨k1, k2, k3⟩ := add_low hC0 ea eb
  rw [hv] at k1 k2 k3
  clear ea eb hv
  obtain ⟨X, hX⟩ : ∃ z, x * e = z := ⟨_, rfl⟩
  obtain ⟨Y, hY⟩ : ∃ z, y * d = z := ⟨_, rfl⟩
  obtain ⟨C, hC⟩ : ∃ z, d * e = z := ⟨_, rfl⟩
  rw [hX] at m1 k1 k2 k3 hxe hsum; rw [hY] at m2 k1 k2 k3 hyd hsum; rw [hC] at m3 k1 k2 k3 hC0 hde'
  by_cases hpq : p = q
  · subst hpq
    have h1 := w_sNatAdd (a := X) (b := Y) (by omega) (by omega)
    have h2 := w_sMake (b := p) (m := X + Y) (n := C) (by omega) (by omega) hC0
    rw [k1 rfl]
    simp only [natS, ratS] at m1 m2 m3 h1 h2
    (refine callOk_of_wpc (W := fun _ => false) false hm' Tryz.func27 rfl (by kernel_rfl) (Nat.le_of_ble_eq_true rfl) (go_start ?_); generalize hQ : Post Tryz.prog Tryz.f27 _ _ _ _ _ = Q; simp only [stIn, matL, matA, st00, natS,ratS])
    simp (disch := omega) only [go_sem, ↓k_cond, ↓x_idx, ↓k_block, Nat.reduceEqDiff, Nat.reduceBEq, ↓reduceIte, reduceCtorEq, h1, h2, m1, m2, m3]
    (repeat (with_reducible refine Or.inr ?_))
    rw [← hQ]
    exact post_cell1 (id := 2) (x := ratS (lowQ p (X + Y) C)) (.inl rfl) rfl o_sRat (by simp [upd_app] <;> omega) (by simp [upd_app]) (by simp [upd_app, natS, ratS]) ld_sRat (by simp)
  · have hcx := w_sCmp (a := X) (b := Y) (by omega) (by omega)
    have e1 := hne hpq
    by_cases hxy : Y ≤ X
    · have h1 := w_sNatLess (a := X) (b := Y) (by omega) hxy
      have h2 := w_sMake (b := p) (m := X - Y) (n := C) (Nat.le_trans (enc_len_mono B9_gt (Nat.sub_le X Y)) (by omega)) (by omega) hC0
      have hc0 : 0 ≤ cmpI X Y := cmpI_ge hxy
      rw [k2 hpq hxy]
      simp only [natS, ratS] at m1 m2 m3 hcx h1 h2
      (refine callOk_of_wpc (W := fun _ => false) false hm' Tryz.func27 rfl (by kernel_rfl) (Nat.le_of_ble_eq_true rfl) (go_start ?_); generalize hQ : Post Tryz.prog Tryz.f27 _ _ _ _ _ = Q; simp only [stIn, matL, matA, st00, natS,ratS])
      simp (disch := omega) only [go_sem, ↓k_cond, ↓x_idx, ↓k_block, Nat.reduceEqDiff, Nat.reduceBEq, ↓reduceIte, reduceCtorEq, h1, h2, hcx, e1, m1, m2, m3]
      (repeat (with_reducible refine Or.inr ?_))
      rw [← hQ]
      exact post_cell1 (id := 2) (x := ratS (lowQ p (X - Y) C)) (.inl rfl) rfl o_sRat (by simp [upd_app] <;> omega) (by simp [upd_app]) (by simp [upd_app, natS, ratS]) ld_sRat (by simp)
    · have h1 := w_sNatLess (a := Y) (b := X) (by omega) (by omega)
      have h2 := w_sMake (b := q) (m := Y - X) (n := C) (Nat.le_trans (enc_len_mono B9_gt (Nat.sub_le Y X)) (by omega)) (by omega) hC0
      have hc0 : cmpI X Y < 0 := by rw [cmpI_lt (by omega)]; omega
      rw [k3 hpq (by omega)]
      simp only [natS, ratS] at m1 m2 m3 hcx h1 h2
      (refine callOk_of_wpc (W := fun _ => false) false hm' Tryz.func27 rfl (by kernel_rfl) (Nat.le_of_ble_eq_true rfl) (go_start ?_); generalize hQ : Post Tryz.prog Tryz.f27 _ _ _ _ _ = Q; simp only [stIn, matL, matA, st00, natS,ratS])
      simp (disch := omega) only [go_sem, ↓k_cond, ↓x_idx, ↓k_block, Nat.reduceEqDiff, Nat.reduceBEq, ↓reduceIte, reduceCtorEq, h1, h2, hcx, e1, m1, m2, m3]
      (repeat (with_reducible refine Or.inr ?_))
      rw [← hQ]
      exact post_cell1 (id := 2) (x := ratS (lowQ q (Y - X) C)) (.inl rfl) rfl o_sRat (by simp [upd_app] <;> omega) (by simp [upd_app]) (by simp [upd_app, natS, ratS]) ld_sRat (by simp)
attribute [go_sem] w_sSum
attribute [go_sem] w_sSum
theorem w_sMinus {m n : Nat} {a b : Rat} (h : m + n ≤ 274877906944) : CW Tryz.prog 63 [rS m a, rS n b] (rS (m + n + 1) (a - b)) := by
 refine cw (by kernel_rfl) (by simp [AV.pure, AV.pureL, natA_pure, natI_pure, natS_pure]) (by simp [AV.pure, AV.pureL, natA_pure, natI_pure, natS_pure]) ?_
 rw [Rat.sub_eq_add_neg]
 (refine callOk_of_wpc (W := fun _ => false) false hm' Tryz.func63 rfl (by kernel_rfl) (Nat.le_of_ble_eq_true rfl) (go_start ?_); generalize hQ : Post Tryz.prog Tryz.f63 _ _ _ _ _ = Q; simp only [stIn, matL, matA, st00])
 simp (disch := omega) only [go_sem, ↓k_cond, ↓x_idx, ↓k_block, Nat.reduceEqDiff, Nat.reduceBEq, ↓reduceIte, reduceCtorEq]
 (repeat (with_reducible refine Or.inr ?_))
 rw [← hQ]
 exact post_cell1 (id := 2) (x := rS (m + n + 1) (a + -b)) (.inl rfl) rfl o_sRat (by simp [upd_app] <;> omega) (by simp [upd_app]) (by simp [upd_app]) ld_sRat (by simp [AV.pure, AV.pureL])
theorem parts_of {a : Rat} {m : Nat} (ha : fits m a) : ∃ p x d, qd a = (p, x, d) ∧ d ≠ 0 ∧ (a.num ≠ 0 ↔ x ≠ 0) ∧ x < 2 ^ m ∧ d < 2 ^ m ∧ Nat.gcd x d = 1 :=
 ⟨_, _, _, rfl, a.den_nz, by first | omega | (simp only; omega), ha.1, ha.2, a.reduced⟩
attribute [go_sem] w_sMinus
theorem w_sTimes {m n : Nat} {a b : Rat} (h : m + n ≤ 274877906944) : CW Tryz.prog 28 [rS m a, rS n b] (rS (m + n) (a * b)) := by
 refine cw (by kernel_rfl) (by simp [AV.pure, AV.pureL, natA_pure, natI_pure, natS_pure]) (by simp [AV.pure, AV.pureL, natA_pure, natI_pure, natS_pure]) ?_
 refine callOk_told (x := rS m a) told_rS (by simp) (by simp [AV.pure, AV.pureL, natA_pure, natI_pure, natS_pure]) fun ha => ?_
 refine callOk_told (x := rS n b) told_rS (by simp) (by simp [AV.pure, AV.pureL, natA_pure, natI_pure, natS_pure]) fun hb => ?_
 rw [rS_eq ha, rS_eq hb, rS_eq (fits_mul ha hb (fits_pos ha))]
 obtain ⟨p, x, d, ea, hd0, _, hx, hd, _⟩ := parts_of ha
 obtain ⟨q, y, e, eb, he0, _, hy, he, _⟩ := parts_of hb
 rw [mul_low ea eb hd0 he0, ea, eb]
 have m1 := w_sNatMul (a := x) (b := y) (by have := len9 hx; omega) (by have := len9 hy; omega)
 have m2 := w_sNatMul (a := d) (b := e) (by have := len9 hd; omega) (by have := len9 he; omega)
 have h2 := w_sMake (b := p != q) (m := x * y) (n := d * e) (Nat.le_trans (len9 (mul_lt_pow hx hy)) (by omega)) (Nat.le_trans (len9 (mul_lt_pow hd he)) (by omega)) (Nat.mul_ne_zero hd0 he0)
 rw [bne] at h2 ⊢
 simp only [natS, ratS] at m1 m2 h2
 (refine callOk_of_wpc (W := fun _ => false) false hm' Tryz.func28 rfl (by kernel_rfl) (Nat.le_of_ble_eq_true rfl) (go_start ?_); generalize hQ : Post Tryz.prog Tryz.f28 _ _ _ _ _ = Q; simp only [stIn, matL, matA, st00, natS,ratS])
 simp (disch := omega) only [go_sem, ↓k_cond, ↓x_idx, ↓k_block, Nat.reduceEqDiff, Nat.reduceBEq, ↓reduceIte, reduceCtorEq, h2, m1, m2]
 (repeat (with_reducible refine Or.inr ?_))
 rw [← hQ]
 exact post_cell1 (id := 2) (x := ratS (lowQ (!(p == q)) (x * y) (d * e))) (.inl rfl) rfl o_sRat (by simp [upd_app] <;> omega) (by simp [upd_app]) (by simp [upd_app, natS, ratS]) ld_sRat (by simp)
attribute [go_sem] w_sTimes
theorem w_sOver {m n : Nat} {a b : Rat} (h : m + n ≤ 274877906944) (h0 : b.num ≠ 0) : CW Tryz.prog 50 [rS m a, rS n b] (rS (m + n) (a / b)) := by
 refine cw (by kernel_rfl) (by simp [AV.pure, AV.pureL, natA_pure, natI_pure, natS_pure]) (by simp [AV.pure, AV.pureL, natA_pure, natI_pure, natS_pure]) ?_
 refine callOk_told (x := rS m a) told_rS (by simp) (by simp [AV.pure, AV.pureL, natA_pure, natI_pure, natS_pure]) fun ha => ?_
 refine callOk_told (x := rS n b) told_rS (by simp) (by simp [AV.pure, AV.pureL, natA_pure, natI_pure, natS_pure]) fun hb => ?_
 rw [rS_eq ha, rS_eq hb, rS_eq (fits_over ha hb h0)]
 obtain ⟨p, x, d, ea, hd0, _, hx, hd, _⟩ := parts_of ha
 obtain ⟨q, y, e, eb, he0, hy0, hy, he, _⟩ := parts_of hb
 have hy0 := hy0.1 h0
 rw [over_low ea eb h0, ea, eb]
 have m1 := w_sNatMul (a := x) (b := e) (by have := len9 hx; omega) (by have := len9 he; omega)
 have m2 := w_sNatMul (a := d) (b := y) (by have := len9 hd; omega) (by have := len9 hy; omega)
 have h2 := w_sMake (b := p != q) (m := x * e) (n := d * y) (Nat.le_trans (len9 (mul_lt_pow hx he)) (by omega)) (Nat.le_trans (len9 (mul_lt_pow hd hy)) (by omega)) (Nat.mul_ne_zero hd0 hy0)
 rw [bne] at h2 ⊢
 simp only [natS, ratS] at m1 m2 h2
 (refine callOk_of_wpc (W := fun _ => false) false hm' Tryz.func50 rfl (by kernel_rfl) (Nat.le_of_ble_eq_true rfl) (go_start ?_); generalize hQ : Post Tryz.prog Tryz.f50 _ _ _ _ _ = Q; simp only [stIn, matL, matA, st00, natS,ratS])
 simp (disch := omega) only [go_sem, ↓k_cond, ↓x_idx, ↓k_block, Nat.reduceEqDiff, Nat.reduceBEq, ↓reduceIte, reduceCtorEq, h2, m1, m2]
 (repeat (with_reducible refine Or.inr ?_))
 rw [← hQ]
 exact post_cell1 (id := 2) (x := ratS (lowQ (!(p == q)) (x * e) (d * y))) (.inl rfl) rfl o_sRat (by simp [upd_app] <;> omega) (by simp [upd_app]) (by simp [upd_app, natS, ratS]) ld_sRat (by simp)
attribute [go_sem] w_sOver
theorem w_sLess {m n : Nat} {a b : Rat} (h : m + n ≤ 274877906944) : CW Tryz.prog 60 [rS m a, rS n b] (.bool (decide (a < b))) := by
  refine cw (by kernel_rfl) (by simp [AV.pure, AV.pureL, natA_pure, natI_pure, natS_pure]) (by simp [AV.pure, AV.pureL, natA_pure, natI_pure, natS_pure]) ?_
  refine callOk_told (x := rS m a) told_rS (by simp) (by simp [AV.pure, AV.pureL, natA_pure, natI_pure, natS_pure]) fun ha => ?_
  refine callOk_told (x := rS n b) told_rS (by simp) (by simp [AV.pure, AV.pureL, natA_pure, natI_pure, natS_pure]) fun hb => ?_
  rw [rS_eq ha, rS_eq hb]
  obtain ⟨p, x, d, ea, hd0, _, hx, hd, _⟩ := parts_of ha
  obtain ⟨q, y, e, eb, he0, _, hy, he, _⟩ := parts_of hb
  obtain ⟨k1, k2, _⟩ := less_of ea eb
  rw [ea, eb]
  have m1 := w_sNatMul (a := x) (b := e) (by have := len9 hx; omega) (by have := len9 he; omega)
  have m2 := w_sNatMul (a := y) (b := d) (by have := len9 hy; omega) (by have := len9 hd; omega)
  have hc := w_sCmp (a := x * e) (b := y * d) (Nat.lt_of_le_of_lt (len9 (mul_lt_pow hx he)) (by omega)) (Nat.lt_of_le_of_lt (len9 (mul_lt_pow hy hd)) (by omega))
  simp only [natS] at m1 m2 hc
  by_cases hpq : p = q
  · subst hpq
    rw [k2 rfl]
    obtain ⟨c, hcc⟩ : ∃ c, cmpI (x * e) (y * d) = c := ⟨_, rfl⟩
    rw [hcc] at hc ⊢
    clear k1 k2
    rcases Int.lt_trichotomy c 0 with h0 | h0 | h0 <;> cases p
    all_goals
      (refine callOk_of_wpc (W := fun _ => false) false hm' Tryz.func60 rfl (by kernel_rfl) (Nat.le_of_ble_eq_true rfl) (go_start ?_); generalize hQ : Post Tryz.prog Tryz.f60 _ _ _ _ _ = Q; simp only [stIn, matL, matA, st00, natS,ratS])
      simp (disch := omega) only [go_sem, ↓k_cond, ↓x_idx, ↓k_block, Nat.reduceEqDiff, Nat.reduceBEq, ↓reduceIte, reduceCtorEq, m1, m2, hc]
      (repeat (with_reducible refine Or.inr ?_))
      rw [← hQ]
      exact post_one (.inl rfl) rfl (by simp [upd_app] <;> omega) rfl
  · rw [k1 hpq]
    have e1 : (p != q) = true := by cases p <;> cases q <;> simp_all
    have e2 : (p == q) = false := by cases p <;> cases q <;> simp_all
    (refine callOk_of_wpc (W := fun _ => false) false hm' Tryz.func60 rfl (by kernel_rfl) (Nat.le_of_ble_eq_true rfl) (go_start ?_); generalize hQ : Post Tryz.prog Tryz.f60 _ _ _ _ _ = Q; simp only [stIn, matL, matA, st00, natS,ratS])
    simp (disch := omega) only [go_sem, ↓k_cond, ↓x_idx, ↓k_block, Nat.reduceEqDiff, Nat.reduceBEq, ↓reduceIte, reduceCtorEq, e1, e2]
    (repeat (with_reducible refine Or.inr ?_))
    rw [← hQ]
    exact post_one (.inl rfl) rfl (by simp [upd_app] <;> omega) rfl
attribute [go_sem] w_sLess
theorem sign_ne {a : Rat} (h : a.num ≠ 0) : a.num.sign ≠ 0 := fun e => h (Int.sign_eq_zero_iff_zero.1 e)
set_option maxHeartbeats 1000000 in
theorem w_mul {m n : Nat} {a b : Rat} (h : m + n ≤ 274877906944) : CW Tryz.prog 35 [rI m a, rI n b] (rI (m + n) (a * b)) := by
  refine cw (by kernel_rfl) (by simp [AV.pure, AV.pureL, natA_pure, natI_pure, natS_pure]) (by simp [AV.pure, AV.pureL, natA_pure, natI_pure, natS_pure]) ?_
  refine callOk_told (x := rI m a) told_rI (by simp) (by simp [AV.pure, AV.pureL, natA_pure, natI_pure, natS_pure]) fun ha => ?_
  refine callOk_told (x := rI n b) told_rI (by simp) (by simp [AV.pure, AV.pureL, natA_pure, natI_pure, natS_pure]) fun hb => ?_
  have hsa := w_sign (a := a) (m := m) (by omega)
  have hsb := w_sign (a := b) (m := n) (by omega)
  rw [rI_eq ha] at hsa
  rw [rI_eq hb] at hsb
  obtain ⟨p, x, d, ea, hd0, hx0, hx, hd, hg1⟩ := parts_of ha
  obtain ⟨q, y, e, eb, he0, hy0, hy, he, hg2⟩ := parts_of hb
  have hz := w_whole (n := 0) (by omega) (by omega)
  have hz0 : (((0 : Int) : Rat)) = 0 := rfl
  rw [hz0] at hz
  rw [ea] at hsa; rw [eb] at hsb
  by_cases h0 : a.num = 0 ∨ b.num = 0
  · have e0 : a * b = 0 := by rcases h0 with h0 | h0 <;> rw [num_zero.1 h0] <;> simp
    have f0 : fits (m + n) (0 : Rat) := e0 ▸ fits_mul ha hb (fits_pos ha)
    have f64 : fits 64 (0 : Rat) := fits_int (n := 0) (by decide) (by decide)
    have e1 : rI 64 (0 : Rat) = rI (m + n) 0 := by rw [rI_eq f0, rI_eq f64]
    rw [e1] at hz
    rw [e0, rI_eq ha, rI_eq hb, ea, eb]
    obtain ⟨s, hs⟩ : ∃ s, a.num.sign = s := ⟨_, rfl⟩
    obtain ⟨t, ht⟩ : ∃ s, b.num.sign = s := ⟨_, rfl⟩
    have hst : s = 0 ∨ t = 0 := h0.imp (fun h => by rw [← hs, h]; rfl) (fun h => by rw [← ht, h]; rfl)
    rw [hs] at hsa; rw [ht] at hsb
    simp only [ratI, natI] at hsa hsb
    clear e0 e1 f0 f64 h0 hs ht ea eb hx0 hy0
    by_cases hs0 : s = 0
    · subst hs0
      (refine callOk_of_wpcD (W := ⟨fun _ => false, fun r => if r = 3 then some [(1, 10), (3, 10), (6, 10), (8, 10), (1, 11), (3, 11), (6, 11), (8, 11), (10, 11)] else none⟩) false hm' Tryz.func35 rfl (by kernel_rfl) (Nat.le_of_ble_eq_true rfl) (go_start ?_); generalize hQ : Post Tryz.prog Tryz.f35 _ _ _ _ _ = Q; simp only [stIn, matL, matA, st00, natI,ratI])
      simp (disch := omega) only [go_sem, ↓k_cond, ↓x_idx, ↓k_block, Nat.reduceEqDiff, Nat.reduceBEq, ↓reduceIte, reduceCtorEq, ↓k_appE, hsa, hsb, hz]
      (repeat (with_reducible refine Or.inr ?_))
      rw [← hQ]
      exact post_cell1 (id := 2) (x := rI (m + n) 0) (.inl rfl) rfl o_iRat (by simp [upd_app] <;> omega) (by simp [upd_app]) (by simp [upd_app]) ld_iRat (by simp [AV.pure, AV.pureL])
    · have : t = 0 := by omega
      subst this
      (refine callOk_of_wpcD (W := ⟨fun _ => false, fun r => if r = 3 then some [(1, 10), (3, 10), (6, 10), (8, 10), (1, 11), (3, 11), (6, 11), (8, 11), (10, 11)] else none⟩) false hm' Tryz.func35 rfl (by kernel_rfl) (Nat.le_of_ble_eq_true rfl) (go_start ?_); generalize hQ : Post Tryz.prog Tryz.f35 _ _ _ _ _ = Q; simp only [stIn, matL, matA, st00, natI,ratI])
      simp (disch := omega) only [go_sem, ↓k_cond, ↓x_idx, ↓k_block, Nat.reduceEqDiff, Nat.reduceBEq, ↓reduceIte, reduceCtorEq, ↓k_appE, hsa, hsb, hz]
      (repeat (with_reducible refine Or.inr ?_))
      rw [← hQ]
      exact post_cell1 (id := 2) (x := rI (m + n) 0) (.inl rfl) rfl o_iRat (by simp [upd_app] <;> omega) (by simp [upd_app]) (by simp [upd_app]) ld_iRat (by simp [AV.pure, AV.pureL])
  have hs := sign_ne (a := a) (by omega)
  have ht := sign_ne (a := b) (by omega)
  have hxn := hx0.1 (by omega)
  have hyn := hy0.1 (by omega)
  rw [rI_eq (fits_mul ha hb (fits_pos ha)), rI_eq ha, rI_eq hb, mul_low ea eb hd0 he0, cross_low hxn hyn hd0 he0 hg1 hg2, ea, eb]
  generalize a.num.sign = s at hsa hs
  generalize b.num.sign = t at hsb ht
  have lx := len32 hx
  have ld := len32 hd
  have ly := len32 hy
  have le := len32 he
  have l1 := w_low (b := false) (m := x) (n := e) (by omega) (by omega) he0
  have l2 := w_low (b := false) (m := y) (n := d) (by omega) (by omega) hd0
  have k1 := enc_div_len (B := B32) (m := x) (g := Nat.gcd x e) B32_gt
  have k2 := enc_div_len (B := B32) (m := e) (g := Nat.gcd x e) B32_gt
  have k3 := enc_div_len (B := B32) (m := y) (g := Nat.gcd y d) B32_gt
  have k4 := enc_div_len (B := B32) (m := d) (g := Nat.gcd y d) B32_gt
  generalize x / Nat.gcd x e = x' at *
  generalize e / Nat.gcd x e = e' at *
  generalize y / Nat.gcd y d = y' at *
  generalize d / Nat.gcd y d = d' at *
  have m1 := w_natMul (a := x') (b := y') (by omega) (by omega)
  have m2 := w_natMul (a := e') (b := d') (by omega) (by omega)
  rw [Bool.false_and] at l1 l2
  rw [bne]
  simp only [ratI, natI] at hsa hsb l1 l2 m1 m2
  clear k1 k2 k3 k4 lx ld ly le hx hy hd he hx0 hy0 hg1 hg2 ea eb ha hb h0 hz hz0
  (refine callOk_of_wpcD (W := ⟨fun _ => false, fun r => if r = 3 then some [(1, 10), (3, 10), (6, 10), (8, 10), (1, 11), (3, 11), (6, 11), (8, 11), (10, 11)] else none⟩) false hm' Tryz.func35 rfl (by kernel_rfl) (Nat.le_of_ble_eq_true rfl) (go_start ?_); generalize hQ : Post Tryz.prog Tryz.f35 _ _ _ _ _ = Q; simp only [stIn, matL, matA, st00, natI,ratI])
  simp (disch := omega) only [go_sem, ↓k_cond, ↓x_idx, ↓k_block, Nat.reduceEqDiff, Nat.reduceBEq, ↓reduceIte, reduceCtorEq, ↓k_appE, hsa, hsb, l1, l2, m1, m2]
  (repeat (with_reducible refine Or.inr ?_))
  rw [← hQ]
  exact post_cell1 (id := 2) (x := ratI (!(p == q), x' * y', e' * d')) (.inl rfl) rfl o_iRat (by simp [upd_app] <;> omega) (by simp [upd_app]) (by simp [upd_app, natI, ratI]) ld_iRat (by simp)
attribute [go_sem] w_mul
attribute [go_sem] w_mul
theorem w_over {m n : Nat} {a b : Rat} (h : m + n ≤ 274877906944) (h0 : b.num ≠ 0) : CW Tryz.prog 105 [rI m a, rI n b] (rI (m + n) (a / b)) := by
 refine cw (by kernel_rfl) (by simp [AV.pure, AV.pureL, natA_pure, natI_pure, natS_pure]) (by simp [AV.pure, AV.pureL, natA_pure, natI_pure, natS_pure]) ?_
 refine callOk_told (x := rI n b) told_rI (by simp) (by simp [AV.pure, AV.pureL, natA_pure, natI_pure, natS_pure]) fun hb => ?_
 have hm := w_mul (m := m) (n := n) (a := a) (b := b⁻¹) h
 have e1 : qd b = (decide (b.num < 0), b.num.natAbs, b.den) := rfl
 rw [rI_eq (fits_inv hb h0), qd_inv e1 h0, ← Rat.div_def] at hm
 rw [rI_eq hb, e1]
 simp only [ratI, natI] at hm
 (refine callOk_of_wpc (W := fun _ => false) false hm' Tryz.func105 rfl (by kernel_rfl) (Nat.le_of_ble_eq_true rfl) (go_start ?_); generalize hQ : Post Tryz.prog Tryz.f105 _ _ _ _ _ = Q; simp only [stIn, matL, matA, st00, natI,ratI])
 generalize decide (b.num < 0) = q at *
 simp (disch := omega) only [go_sem, ↓k_cond, ↓x_idx, ↓k_block, Nat.reduceEqDiff, Nat.reduceBEq, ↓reduceIte, reduceCtorEq, hm]
 (repeat (with_reducible refine Or.inr ?_))
 rw [← hQ]
 exact post_cell1 (id := 2) (x := rI (m + n) (a / b)) (.inl rfl) rfl o_iRat (by simp [upd_app] <;> omega) (by simp [upd_app]) (by simp [upd_app]) ld_iRat (by simp [AV.pure, AV.pureL])
def cmpR (a b : Rat) : Int := cmpQ (qd a) (qd b)
theorem cmpR_eq {a b : Rat} : cmpR a b = 0 ↔ a = b := (cmp_lt a b).2
attribute [go_sem] w_over
theorem w_cmp {m n : Nat} {a b : Rat} (h : m + n ≤ 274877906944) : CW Tryz.prog 150 [rI m a, rI n b] (.int .i64 (cmpR a b)) := by
  refine cw (by kernel_rfl) (by simp [AV.pure, AV.pureL, natA_pure, natI_pure, natS_pure]) (by simp [AV.pure, AV.pureL, natA_pure, natI_pure, natS_pure]) ?_
  refine callOk_told (x := rI m a) told_rI (by simp) (by simp [AV.pure, AV.pureL, natA_pure, natI_pure, natS_pure]) fun ha => ?_
  refine callOk_told (x := rI n b) told_rI (by simp) (by simp [AV.pure, AV.pureL, natA_pure, natI_pure, natS_pure]) fun hb => ?_
  have hsa := w_sign (a := a) (m := m) (by omega)
  have hsb := w_sign (a := b) (m := n) (by omega)
  rw [rI_eq ha] at hsa
  rw [rI_eq hb] at hsb
  have e1 := sgnQ_qd a
  have e2 := sgnQ_qd b
  obtain ⟨p, x, d, ea, hd0, hx0, hx, hd, hg1⟩ := parts_of ha
  obtain ⟨q, y, e, eb, he0, hy0, hy, he, hg2⟩ := parts_of hb
  have b1 : a.num.sign = -1 ∨ a.num.sign = 0 ∨ a.num.sign = 1 := by rcases Int.lt_trichotomy a.num 0 with h | h | h <;> simp [h, Int.sign_eq_neg_one_of_neg, Int.sign_eq_one_of_pos]
  have b2 : b.num.sign = -1 ∨ b.num.sign = 0 ∨ b.num.sign = 1 := by rcases Int.lt_trichotomy b.num 0 with h | h | h <;> simp [h, Int.sign_eq_neg_one_of_neg, Int.sign_eq_one_of_pos]
  rw [ea] at hsa e1; rw [eb] at hsb e2
  rw [cmpR, cmpQ, rI_eq ha, rI_eq hb, ea, eb, e1, e2]
  generalize a.num.sign = s at *
  generalize b.num.sign = t at *
  have m1 := w_natMul (a := x) (b := e) (by have := len32 hx; omega) (by have := len32 he; omega)
  have m2 := w_natMul (a := y) (b := d) (by have := len32 hy; omega) (by have := len32 hd; omega)
  have hc := w_natCmp (a := x * e) (b := y * d) (Nat.lt_of_le_of_lt (len32 (mul_lt_pow hx he)) (by omega)) (Nat.lt_of_le_of_lt (len32 (mul_lt_pow hy hd)) (by omega))
  have hn : cmpN (x * e) (y * d) = cmpI (x * e) (y * d) := by simp [cmpI, cmpN]
  have b3 : cmpI (x * e) (y * d) = -1 ∨ cmpI (x * e) (y * d) = 0 ∨ cmpI (x * e) (y * d) = 1 := by
    rcases Nat.lt_trichotomy (x * e) (y * d) with h | h | h
    · left; exact cmpI_lt h
    · right; left; rw [h]; exact cmpI_eq _
    · right; right; exact cmpI_gt h
  simp only [hn]
  generalize cmpI (x * e) (y * d) = c at *
  simp only [ratI, natI] at hsa hsb m1 m2 hc
  clear hn hx hy hd he hx0 hy0 hg1 hg2 ea eb ha hb hd0 he0 e1 e2
  by_cases hst : s = t
  · subst hst
    rw [if_neg (by simp)]
    cases p
    · rw [if_neg (by simp)]
      (refine callOk_of_wpc (W := fun _ => false) false hm' Tryz.func150 rfl (by kernel_rfl) (Nat.le_of_ble_eq_true rfl) (go_start ?_); generalize hQ : Post Tryz.prog Tryz.f150 _ _ _ _ _ = Q; simp only [stIn, matL, matA, st00, natI,ratI])
      simp (disch := omega) only [go_sem, ↓k_cond, ↓x_idx, ↓k_block, Nat.reduceEqDiff, Nat.reduceBEq, ↓reduceIte, reduceCtorEq, hsa, hsb, m1, m2, hc]
      (repeat (with_reducible refine Or.inr ?_))
      rw [← hQ]
      exact post_one (.inl rfl) rfl (by simp [upd_app] <;> omega) rfl
    · rw [if_pos rfl]
      (refine callOk_of_wpc (W := fun _ => false) false hm' Tryz.func150 rfl (by kernel_rfl) (Nat.le_of_ble_eq_true rfl) (go_start ?_); generalize hQ : Post Tryz.prog Tryz.f150 _ _ _ _ _ = Q; simp only [stIn, matL, matA, st00, natI,ratI])
      simp (disch := omega) only [go_sem, ↓k_cond, ↓x_idx, ↓k_block, Nat.reduceEqDiff, Nat.reduceBEq, ↓reduceIte, reduceCtorEq, hsa, hsb, m1, m2, hc]
      (repeat (with_reducible refine Or.inr ?_))
      rw [← hQ]
      exact post_one (.inl rfl) rfl (by simp [upd_app]) rfl
  · rw [if_pos hst]
    (refine callOk_of_wpc (W := fun _ => false) false hm' Tryz.func150 rfl (by kernel_rfl) (Nat.le_of_ble_eq_true rfl) (go_start ?_); generalize hQ : Post Tryz.prog Tryz.f150 _ _ _ _ _ = Q; simp only [stIn, matL, matA, st00, natI,ratI])
    simp (disch := omega) only [go_sem, ↓k_cond, ↓x_idx, ↓k_block, Nat.reduceEqDiff, Nat.reduceBEq, ↓reduceIte, reduceCtorEq, hsa, hsb]
    (repeat (with_reducible refine Or.inr ?_))
    rw [← hQ]
    exact post_one (.inl rfl) rfl (by simp [upd_app]) rfl
attribute [go_sem] w_over w_cmp
attribute [go_sem] w_cmp
theorem w_isMinus {m : Nat} {a : Rat} (h : m ≤ 274877906944) : CW Tryz.prog 126 [rI m a] (.bool (decide (a < 0))) := by
  refine cw (by kernel_rfl) (by simp [AV.pure, AV.pureL, natA_pure, natI_pure, natS_pure]) (by simp [AV.pure, AV.pureL, natA_pure, natI_pure, natS_pure]) ?_
  rw [← num_neg]
  have b1 : decide (a.num < 0) = decide (a.num.sign < 0) := by
    rcases Int.lt_trichotomy a.num 0 with h | h | h
    · rw [Int.sign_eq_neg_one_of_neg h]; simp [h]
    · rw [h]; rfl
    · rw [Int.sign_eq_one_of_pos h]; exact decide_eq_decide.2 (by omega)
  have hsa := w_sign (a := a) (m := m) (by omega)
  simp only [rI] at hsa
  rw [b1]
  rw [b1] at hsa
  generalize decide (a.num.sign < 0) = p at *
  (refine callOk_of_wpc (W := fun _ => false) false hm' Tryz.func126 rfl (by kernel_rfl) (Nat.le_of_ble_eq_true rfl) (go_start ?_); generalize hQ : Post Tryz.prog Tryz.f126 _ _ _ _ _ = Q; simp only [stIn, matL, matA, st00])
  simp (disch := omega) only [go_sem, ↓k_cond, ↓x_idx, ↓k_block, Nat.reduceEqDiff, Nat.reduceBEq, ↓reduceIte, reduceCtorEq, hsa]
  (repeat (with_reducible refine Or.inr ?_))
  rw [← hQ]
  exact post_one (.inl rfl) rfl (by simp [upd_app] <;> omega) rfl
attribute [go_sem] w_isMinus
attribute [go_sem] int_cast_0 int_cast_1
def sumL (qs : List Rat) : Rat := qs.foldl (· + ·) 0
theorem sumL_snoc {qs : List Rat} {q : Rat} : sumL (qs ++ [q]) = sumL qs + q := by simp [sumL]
theorem sumL_take {qs : List Rat} {i : Nat} {q : Rat} (h : qs[i]? = some q) : sumL (qs.take (i + 1)) = sumL (qs.take i) + q := by rw [List.take_add_one, h]; exact sumL_snoc
attribute [go_sem] w_isMinus
theorem w_sum {m : Nat} {qs : List Rat} (hm : m ≤ 100000) (hl : qs.length ≤ 1000) : CW Tryz.prog 127 [lI m qs] (rI (64 + qs.length * (m + 1)) (sumL qs)) := by
  refine cw (by kernel_rfl) (by simp [AV.pure, AV.pureL, natA_pure, natI_pure, natS_pure]) (by simp [AV.pure, AV.pureL, natA_pure, natI_pure, natS_pure]) ?_
  obtain ⟨n, hn⟩ : ∃ n, qs.length = n := ⟨_, rfl⟩
  rw [hn] at hl ⊢
  (refine callOk_of_wpc (W := fun _ => false) false hm' Tryz.func127 rfl (by kernel_rfl) (Nat.le_of_ble_eq_true rfl) (go_start ?_); generalize hQ : Post Tryz.prog Tryz.f127 _ _ _ _ _ = Q; simp only [stIn, matL, matA, st00])
  simp (disch := omega) only [go_sem, ↓k_cond, ↓x_idx, ↓k_block, Nat.reduceEqDiff, Nat.reduceBEq, ↓reduceIte, reduceCtorEq, hn]
  (repeat (with_reducible refine Or.inr ?_))
  refine k_loop (fun (i : Nat) st => st.fr 0 = lI m qs ∧ st.fr 2 = .ptr 0 1 0 0 ∧ st.fr 3 = .ptr 1 1 0 0 ∧ st.fr 7 = lI m qs ∧ st.fr 8 = .int .i64 n ∧ st.fr 9 = .int .i64 i ∧ st.h 0 = ⟨52, [.agg [.bool false, .nil, .nil]], true, false, true⟩ ∧ st.h 1 = ⟨52, [rI (64 + i * (m + 1)) (sumL (qs.take i))], true, false, true⟩ ∧ 1 < st.nx ∧ (i ≤ n)) (fun (i : Nat) => n - i) (0)
    ⟨(by simp [upd_app, sumL] <;> omega), (by simp [upd_app, sumL] <;> omega), (by simp [upd_app, sumL] <;> omega), (by simp [upd_app, sumL] <;> omega), (by simp [upd_app, sumL] <;> omega), (by simp [upd_app, sumL] <;> omega), (by simp [upd_app, sumL] <;> omega), (by simp [upd_app, sumL] <;> omega), (by simp <;> omega), by omega⟩ ?_
  rintro i ⟨fr, h, nx⟩ ⟨g0, g2, g3, g7, g8, g9, hm0, hm1, hnx, hi⟩ J hJ
  simp only at g0 g2 g3 g7 g8 g9 hm0 hm1 hnx
  by_cases hin : i < n
  · obtain ⟨q, hq⟩ := get_some (xs := qs) (i := i) (by omega)
    have hb : i * (m + 1) ≤ 1000 * 100001 := Nat.mul_le_mul (by omega) (by omega)
    have e : 64 + (i + 1) * (m + 1) = 64 + i * (m + 1) + m + 1 := by rw [Nat.add_mul]; omega
    have key := hJ (i + 1)
    rw [sumL_take hq, e] at key
    simp (disch := omega) only [go_sem, ↓k_cond, ↓x_idx, ↓k_block, Nat.reduceEqDiff, Nat.reduceBEq, ↓reduceIte, reduceCtorEq, g0, g2, g3, g7, g8, g9, hm0, hm1, hq, hn]
    (repeat (with_reducible refine Or.inr ?_))
    exact key _ ⟨(by simp [upd_app, g0] <;> omega), (by simp [upd_app, g2] <;> omega), (by simp [upd_app, g3] <;> omega), (by simp [upd_app, g7] <;> omega), (by simp [upd_app, g8] <;> omega), (by simp [upd_app] <;> omega), (by simp [upd_app, hm0] <;> omega), (by simp [upd_app] <;> omega), (by simp <;> omega), hin⟩ (by omega)
  · obtain rfl : i = n := by omega
    rw [List.take_of_length_le (by omega)] at hm1
    simp (disch := omega) only [go_sem, ↓k_cond, ↓x_idx, ↓k_block, Nat.reduceEqDiff, Nat.reduceBEq, ↓reduceIte, reduceCtorEq, g0, g2, g3, g7, g8, g9, hm0, hm1, hn]
    (repeat (with_reducible refine Or.inr ?_))
    rw [← hQ]
    exact post_cell1 (id := 0) (x := rI (64 + i * (m + 1)) (sumL qs)) (.inl rfl) rfl o_iRat (by simp [upd_app, g2] <;> omega) (by simp [upd_app]) (by simp [upd_app]) ld_iRat (by simp [AV.pure, AV.pureL])
attribute [go_sem] w_sum

def parseR (s : List UInt8) : Option Rat := (parseQ s).map fun t => mkRat (sg t.1 t.2.1) t.2.2
theorem dval_ten {s : List UInt8} (h : ∀ c ∈ s, isDig c = true) : dval s < 10 ^ s.length := by
 have hl : ∀ (l : List UInt8), (∀ c ∈ l, isDig c = true) → dval l < 10 ^ l.length := by
  intro l
  induction l with
  | nil => intro _; simp [dval]
  | cons c l ih =>
   intro h
   have h1 := dval_append [c] l
   have h2 : dval [c] = c.toNat - 48 := by simp [dval]
   have h3 := h c (by simp)
   simp only [isDig, Bool.and_eq_true, decide_eq_true_eq] at h3
   have h4 := ih (fun d hd => h d (by simp [hd]))
   simp only [List.singleton_append] at h1
   rw [h1, h2, List.length_cons, Nat.pow_succ]
   have : (c.toNat - 48) * 10 ^ l.length ≤ 9 * 10 ^ l.length := Nat.mul_le_mul_right _ (by omega)
   omega
 exact hl s h
theorem ten_pow {k j n : Nat} (h1 : k ≤ 3 * j) (h2 : 10 * j < n) : 10 ^ k < 2 ^ n := by
 have h3 : 10 ^ k ≤ 10 ^ (3 * j) := Nat.pow_le_pow_right (by decide) h1
 have h4 : (10 ^ 3) ^ j ≤ (2 ^ 10) ^ j := Nat.pow_le_pow_left (by decide) j
 rw [← Nat.pow_mul, ← Nat.pow_mul] at h4
 exact Nat.lt_of_le_of_lt (Nat.le_trans h3 h4) (Nat.pow_lt_pow_right (by decide) h2)
theorem one_pow {n : Nat} (h : n ≠ 0) : 1 < 2 ^ n := Nat.one_lt_two_pow h
theorem ten_two {k : Nat} (h : k ≤ 200) : 10 ^ k < 2 ^ 700 := ten_pow (j := 67) (n := 700) (by omega) (by omega)
theorem parse_parts {s : List UInt8} {b : Bool} {m n : Nat} (h : parseQ s = some (b, m, n)) : n ≠ 0 ∧ (b = true → m ≠ 0) ∧ Nat.gcd m n = 1 ∧ m < 2 ^ 700 ∧ n < 2 ^ 700 := by
  unfold parseQ at h
  split at h
  · rename_i hc
    obtain ⟨h1, h2⟩ := hc
    obtain ⟨_, hl, hd⟩ := tok_len h1
    have hm := Nat.lt_trans (dval_ten hd) (ten_two hl)
    split at h
    · simp only [Option.some.injEq, Prod.mk.injEq] at h
      obtain ⟨rfl, rfl, rfl⟩ := h
      exact ⟨by decide, fun hb h0 => h2 ⟨hb, h0⟩, Nat.gcd_one_right _, hm, one_pow (n := 700) (by decide)⟩
    · split at h
      · rename_i i _ hc2
        obtain ⟨k1, k2, k3⟩ := hc2
        obtain ⟨_, hl2, hd2⟩ := tok_len k1
        simp only [Option.some.injEq, Prod.mk.injEq] at h
        obtain ⟨rfl, rfl, rfl⟩ := h
        exact ⟨by omega, fun hb h0 => h2 ⟨hb, h0⟩, k3, hm, Nat.lt_trans (dval_ten hd2) (ten_two hl2)⟩
      · cases h
  · cases h
theorem parse_qd {s : List UInt8} {t : Qd} (h : parseQ s = some t) : ∃ q, parseR s = some q ∧ qd q = t ∧ fits 700 q := by
  obtain ⟨b, m, n⟩ := t
  obtain ⟨h1, h2, h3, h4, h5⟩ := parse_parts h
  have e : qd (mkRat (sg b m) n) = (b, m, n) := by rw [qd_mkRat b m n h1, h3, Nat.div_one, Nat.div_one]; clear h4 h5 h; cases b <;> simp_all
  refine ⟨_, by simp only [parseR, h, Option.map_some], e, ?_⟩
  have e1 : (mkRat (sg b m) n).num.natAbs = m := congrArg (·.2.1) e
  have e2 : (mkRat (sg b m) n).den = n := congrArg (·.2.2) e
  exact ⟨by rw [e1]; exact h4, by rw [e2]; exact h5⟩
theorem parse_none {s : List UInt8} (h : parseQ s = none) : parseR s = none := by simp [parseR, h]
def optI : Option Rat → AV
 | some q => .tup [rI 700 q, .bool true]
 | none => .tup [.agg [.bool false, .nil, .nil], .bool false]
def optS : Option Rat → AV
 | some q => .tup [rS 700 q, .bool true]
 | none => .tup [.agg [.bool false, .nil, .nil], .bool false]
def optLI : Option (List Rat) → AV
 | some q => .tup [lI 700 q, .bool true]
 | none => .tup [.nil, .bool false]
def optLS : Option (List Rat) → AV
 | some q => .tup [lS 700 q, .bool true]
 | none => .tup [.nil, .bool false]
@[simp] theorem optLI_pure (o : Option (List Rat)) : (optLI o).pure = true := by cases o <;> simp [optLI, AV.pure, AV.pureL]
@[simp] theorem optLS_pure (o : Option (List Rat)) : (optLS o).pure = true := by cases o <;> simp [optLS, AV.pure, AV.pureL]
theorem optI_s (q : Rat) : optI (some q) = .tup [rI 700 q, .bool true] := rfl
theorem optI_n : optI none = .tup [.agg [.bool false, .nil, .nil], .bool false] := rfl
theorem optS_s (q : Rat) : optS (some q) = .tup [rS 700 q, .bool true] := rfl
theorem optS_n : optS none = .tup [.agg [.bool false, .nil, .nil], .bool false] := rfl
theorem optLI_s (q : List Rat) : optLI (some q) = .tup [lI 700 q, .bool true] := rfl
theorem optLI_n : optLI none = .tup [.nil, .bool false] := rfl
theorem optLS_s (q : List Rat) : optLS (some q) = .tup [lS 700 q, .bool true] := rfl
theorem optLS_n : optLS none = .tup [.nil, .bool false] := rfl
attribute [go_sem] optI_s optI_n optS_s optS_n optLI_s optLI_n optLS_s optLS_n List.drop_succ_cons
theorem mapM_qd : ∀ (xs : List (List UInt8)), match xs.mapM parseQ with
  | some ts => ∃ qs, xs.mapM parseR = some qs ∧ qs.map qd = ts ∧ ∀ q ∈ qs, fits 700 q
  | none => xs.mapM parseR = none
 | [] => ⟨[], rfl, rfl, by simp⟩
 | x :: xs => by
  have ih := mapM_qd xs
  rw [List.mapM_cons, List.mapM_cons]
  cases hq : parseQ x with
  | none => rw [parse_none hq]; rfl
  | some t =>
   obtain ⟨q, h1, h2, h3⟩ := parse_qd hq
   rw [h1]
   cases hxs : xs.mapM parseQ with
   | none => rw [hxs] at ih; simp [hxs, ih]
   | some ts =>
    rw [hxs] at ih
    obtain ⟨qs, g1, g2, g3⟩ := ih
    simp only [Option.bind_eq_bind, Option.bind_some, g1, pure]
    exact ⟨q :: qs, rfl, by simp [h2, g2], by intro y hy; rcases List.mem_cons.1 hy with rfl | hy; exact h3; exact g3 y hy⟩
def listR (xs : List (List UInt8)) : Option (List Rat) := if 300 < xs.length then none else xs.mapM parseR
theorem list_qd (xs : List (List UInt8)) : match listQ xs with
    | some ts => ∃ qs, listR xs = some qs ∧ qs.map qd = ts ∧ ∀ q ∈ qs, fits 700 q
    | none => listR xs = none := by
  have h := mapM_qd xs
  unfold listQ listR
  by_cases hl : 300 < xs.length
  · rw [if_pos hl, if_pos hl]
  · rw [if_neg hl, if_neg hl]; exact h
theorem list_fits {xs : List (List UInt8)} {qs : List Rat} (h : listR xs = some qs) : (∀ q ∈ qs, fits 700 q) ∧ qs.length = xs.length ∧ qs.length ≤ 300 := by
 have hl : ¬ 300 < xs.length := by intro hl; rw [listR, if_pos hl] at h; cases h
 have h' := h
 rw [listR, if_neg hl] at h'
 have hlen := mapM_len h'
 have k := list_qd xs
 cases hq : listQ xs with
 | none => rw [hq] at k; rw [k] at h; cases h
 | some ts =>
  rw [hq] at k
  obtain ⟨qs', h1, _, h3⟩ := k
  rw [h1] at h; cases h
  exact ⟨h3, hlen, by omega⟩
theorem ratI_list {qs : List Rat} (h : ∀ q ∈ qs, fits 700 q) : (qs.map qd).map ratI = ratL 700 qs := by
 rw [List.map_map]; exact List.map_congr_left fun q hq => (rI_eq (h q hq)).symm
theorem ratS_list {qs : List Rat} (h : ∀ q ∈ qs, fits 700 q) : (qs.map qd).map ratS = ratM 700 qs := by
 rw [List.map_map]; exact List.map_congr_left fun q hq => (rS_eq (h q hq)).symm
theorem w_rats {xs : List (List UInt8)} (hl : xs.length < 9223372036854775808) (hs : ∀ x ∈ xs, x.length < 9223372036854775808) : CW Tryz.prog 85 [.sl 9 (strA xs) [] false] (optLI (listR xs)) := by
 refine cw (by kernel_rfl) (by simp [AV.pure, AV.pureL, natA_pure, natI_pure, natS_pure]) (by simp [AV.pure, AV.pureL, natA_pure, natI_pure, natS_pure]) ?_
 have h := i_rats xs hl hs
 have k := list_qd xs
 unfold listI at h
 cases hq : listQ xs with
 | none => rw [hq] at h k; rw [k]; exact h
 | some ts =>
  rw [hq] at h k
  obtain ⟨qs, h1, h2, h3⟩ := k
  rw [h1, optLI_s]
  simp only [ratsI, ← h2, ratI_list h3] at h
  exact h
attribute [go_sem] w_rats
theorem w_sList {xs : List (List UInt8)} (hl : xs.length < 9223372036854775808) (hs : ∀ x ∈ xs, x.length ≤ 1000000) : CW Tryz.prog 74 [.sl 9 (strA xs) [] false] (optLS (listR xs)) := by
 refine cw (by kernel_rfl) (by simp [AV.pure, AV.pureL, natA_pure, natI_pure, natS_pure]) (by simp [AV.pure, AV.pureL, natA_pure, natI_pure, natS_pure]) ?_
 have h := s_List xs hl hs
 have k := list_qd xs
 unfold listS at h
 cases hq : listQ xs with
 | none => rw [hq] at h k; rw [k]; exact h
 | some ts =>
  rw [hq] at h k
  obtain ⟨qs, h1, h2, h3⟩ := k
  rw [h1, optLS_s]
  simp only [ratsS, ← h2, ratS_list h3] at h
  exact h
attribute [go_sem] w_sList
theorem w_sIn {n a b : Int} : CW Tryz.prog 47 [.int .i64 n, .int .i64 a, .int .i64 b] (.bool (decide (a ≤ n ∧ n ≤ b))) := by
  refine cw (by kernel_rfl) (by simp [AV.pure, AV.pureL, natA_pure, natI_pure, natS_pure]) (by simp [AV.pure, AV.pureL, natA_pure, natI_pure, natS_pure]) ?_
  by_cases h1 : a ≤ n
  · by_cases h2 : n ≤ b
    all_goals
      (refine callOk_of_wpc (W := fun _ => false) false hm' Tryz.func47 rfl (by kernel_rfl) (Nat.le_of_ble_eq_true rfl) (go_start ?_); generalize hQ : Post Tryz.prog Tryz.f47 _ _ _ _ _ = Q; simp only [stIn, matL, matA, st00])
      simp (disch := omega) only [go_sem, ↓k_cond, ↓x_idx, ↓k_block, Nat.reduceEqDiff, Nat.reduceBEq, ↓reduceIte, reduceCtorEq]
      rw [← hQ]
      exact post_one (.inl rfl) rfl (by simp [upd_app]; omega) rfl
  · (refine callOk_of_wpc (W := fun _ => false) false hm' Tryz.func47 rfl (by kernel_rfl) (Nat.le_of_ble_eq_true rfl) (go_start ?_); generalize hQ : Post Tryz.prog Tryz.f47 _ _ _ _ _ = Q; simp only [stIn, matL, matA, st00])
    simp (disch := omega) only [go_sem, ↓k_cond, ↓x_idx, ↓k_block, Nat.reduceEqDiff, Nat.reduceBEq, ↓reduceIte, reduceCtorEq]
    rw [← hQ]
    exact post_one (.inl rfl) rfl (by simp [upd_app]; omega) rfl
attribute [go_sem] w_sIn
theorem w_in {n a b : Int} : CW Tryz.prog 53 [.int .i64 n, .int .i64 a, .int .i64 b] (.bool (decide (a ≤ n ∧ n ≤ b))) := by
  refine cw (by kernel_rfl) (by simp [AV.pure, AV.pureL, natA_pure, natI_pure, natS_pure]) (by simp [AV.pure, AV.pureL, natA_pure, natI_pure, natS_pure]) ?_
  by_cases h1 : a ≤ n
  · by_cases h2 : n ≤ b
    all_goals
      (refine callOk_of_wpc (W := fun _ => false) false hm' Tryz.func53 rfl (by kernel_rfl) (Nat.le_of_ble_eq_true rfl) (go_start ?_); generalize hQ : Post Tryz.prog Tryz.f53 _ _ _ _ _ = Q; simp only [stIn, matL, matA, st00])
      simp (disch := omega) only [go_sem, ↓k_cond, ↓x_idx, ↓k_block, Nat.reduceEqDiff, Nat.reduceBEq, ↓reduceIte, reduceCtorEq]
      rw [← hQ]
      exact post_one (.inl rfl) rfl (by simp [upd_app]; omega) rfl
  · (refine callOk_of_wpc (W := fun _ => false) false hm' Tryz.func53 rfl (by kernel_rfl) (Nat.le_of_ble_eq_true rfl) (go_start ?_); generalize hQ : Post Tryz.prog Tryz.f53 _ _ _ _ _ = Q; simp only [stIn, matL, matA, st00])
    simp (disch := omega) only [go_sem, ↓k_cond, ↓x_idx, ↓k_block, Nat.reduceEqDiff, Nat.reduceBEq, ↓reduceIte, reduceCtorEq]
    rw [← hQ]
    exact post_one (.inl rfl) rfl (by simp [upd_app]; omega) rfl
attribute [go_sem] w_in
theorem decD_small {u : Nat} (h : u < 10) : Lib.decDigits u = [UInt8.ofNat (48 + u)] := by rw [Lib.decDigits, dif_pos h]
theorem decD_big {u : Nat} (h : ¬ u < 10) : Lib.decDigits u = Lib.decDigits (u / 10) ++ [UInt8.ofNat (48 + u % 10)] := by rw [Lib.decDigits, dif_neg h]
theorem decD_ne (u : Nat) : Lib.decDigits u ≠ [] := fun h => by
 have h1 := Lib.decDigits_length u
 have h2 := Lib.nDigits_pos u
 rw [h] at h1; simp at h1; omega
def padD : Nat → Nat → List UInt8
 | 0, _ => []
 | k + 1, r => padD k (r / 10) ++ [UInt8.ofNat (48 + r % 10)]
theorem padD_len : ∀ k r, (padD k r).length = k
 | 0, _ => rfl
 | k + 1, r => by simp [padD, padD_len k]
theorem decD_cat (q : Nat) (hq : 0 < q) : ∀ (k r : Nat), r < 10 ^ k → Lib.decDigits (q * 10 ^ k + r) = Lib.decDigits q ++ padD k r
 | 0, r, h => by
  obtain rfl : r = 0 := by simpa using h
  simp [padD]
 | k + 1, r, h => by
  have hp : 0 < 10 ^ k := Nat.pow_pos (by decide)
  have hqk : 10 ^ k ≤ q * 10 ^ k := Nat.le_mul_of_pos_left _ hq
  have ih := decD_cat q hq k (r / 10)
  rw [Nat.pow_succ] at h ⊢
  rw [← Nat.mul_assoc]
  generalize q * 10 ^ k = X at *
  generalize 10 ^ k = Y at *
  rw [decD_big (by omega), show (X * 10 + r) / 10 = X + r / 10 by omega, show (X * 10 + r) % 10 = r % 10 by omega, ih (by omega), padD, List.append_assoc]
theorem padD_zero : ∀ k, padD k 0 = List.replicate k 48
 | 0 => rfl
 | k + 1 => by rw [padD, Nat.zero_div, padD_zero k, List.replicate_succ']; rfl
theorem padD_eq : ∀ (k r : Nat), r < 10 ^ k → 0 < k → padD k r = List.replicate (k - (Lib.decDigits r).length) 48 ++ Lib.decDigits r
  | 0, _, _, h => absurd h (Nat.lt_irrefl _)
  | k + 1, r, h, _ => by
    by_cases hr : r < 10
    · rw [padD, Nat.div_eq_of_lt hr, padD_zero, Nat.mod_eq_of_lt hr, decD_small hr]; simp
    · have hk : 0 < k := by
        rcases Nat.eq_zero_or_pos k with rfl | h'
        · simp at h; omega
        · exact h'
      rw [Nat.pow_succ] at h
      rw [padD, padD_eq k (r / 10) (by generalize 10 ^ k = Y at *; omega) hk, decD_big hr]
      simp
theorem decD_len : ∀ {k r : Nat}, r < 10 ^ k → 0 < k → (Lib.decDigits r).length ≤ k
  | 0, _, _, h => absurd h (Nat.lt_irrefl _)
  | k + 1, r, h, _ => by
    by_cases hr : r < 10
    · rw [decD_small hr]; simp
    · have hk : 0 < k := by
        rcases Nat.eq_zero_or_pos k with rfl | h'
        · simp at h; omega
        · exact h'
      rw [Nat.pow_succ] at h
      have := decD_len (k := k) (r := r / 10) (by generalize 10 ^ k = Y at *; omega) hk
      rw [decD_big hr]; simp; omega
theorem decD_pad9 {q r : Nat} (hq : 0 < q) (hr : r < 1000000000) : Lib.decDigits (q * 1000000000 + r) = Lib.decDigits q ++ padD 9 r := by
 have := decD_cat q hq 9 r (by simpa using hr)
 simpa using this
theorem decD_one : Lib.decDigits 1 = [49] := by rw [decD_small (by decide)]; rfl
theorem decD_zero : Lib.decDigits 0 = [48] := by rw [decD_small (by decide)]; rfl
theorem decD_nine {r : Nat} (hr : r < 1000000000) : Lib.decDigits (r + 1000000000) = 49 :: padD 9 r := by
 have := decD_pad9 (q := 1) (by decide) hr
 rw [Nat.one_mul, decD_one, Nat.add_comm] at this
 exact this
theorem decD_is_one {n : Nat} (h : Lib.decDigits n = [49]) : n = 1 := by
  by_cases hn : n < 10
  · rw [decD_small hn] at h
    have : UInt8.ofNat (48 + n) = 49 := by simpa using h
    have h2 := congrArg UInt8.toNat this
    rw [UInt8.toNat_ofNat_of_lt' (Nat.lt_of_lt_of_le (show 48 + n < 256 by omega) (by decide))] at h2
    have h3 : (49 : UInt8).toNat = 49 := rfl
    omega
  · rw [decD_big hn] at h
    have := congrArg List.length h
    have h2 := decD_ne (n / 10)
    have h3 := List.length_pos_iff.2 h2
    simp at this
    exact absurd this h2
def chunkD (n : Nat) : List (List UInt8) :=
 if h : n = 0 then [] else (if n / 1000000000 = 0 then Lib.decDigits n else padD 9 (n % 1000000000)) :: chunkD (n / 1000000000)
termination_by n
decreasing_by omega
theorem chunkD_zero : chunkD 0 = [] := by rw [chunkD, dif_pos rfl]
theorem chunkD_pos {n : Nat} (h : n ≠ 0) : chunkD n = (if n / 1000000000 = 0 then Lib.decDigits n else padD 9 (n % 1000000000)) :: chunkD (n / 1000000000) := by rw [chunkD, dif_neg h]
theorem chunkD_text (n : Nat) : n ≠ 0 → (chunkD n).reverse.flatten = Lib.decDigits n := by
  induction n using Nat.strongRecOn with
  | _ n ih =>
    intro h
    rw [chunkD_pos h]
    by_cases hq : n / 1000000000 = 0
    · rw [if_pos hq, hq, chunkD_zero]; simp
    · have e := decD_pad9 (q := n / 1000000000) (r := n % 1000000000) (by omega) (Nat.mod_lt _ (by decide))
      rw [show n / 1000000000 * 1000000000 + n % 1000000000 = n by omega] at e
      rw [if_neg hq, List.reverse_cons, List.flatten_append, ih _ (by omega) hq, e]; simp
theorem chunkD_len {k n : Nat} (h : n < 1000000000 ^ k) : (chunkD n).length ≤ k := by
  induction k generalizing n with
  | zero => obtain rfl : n = 0 := by simpa using h
            rw [chunkD_zero]; simp
  | succ k ih =>
    by_cases h0 : n = 0
    · subst h0; rw [chunkD_zero]; simp
    · rw [Nat.pow_succ] at h
      have := ih (n := n / 1000000000) (by generalize 1000000000 ^ k = Y at *; omega)
      rw [chunkD_pos h0]; simp; omega
theorem chunkD_nine {n : Nat} : ∀ c ∈ chunkD n, c.length ≤ 9 ∧ c ≠ [] := by
  induction n using Nat.strongRecOn with
  | _ n ih =>
    intro c hc
    by_cases h0 : n = 0
    · subst h0; rw [chunkD_zero] at hc; simp at hc
    · rw [chunkD_pos h0] at hc
      rcases List.mem_cons.1 hc with rfl | hc
      · split
        · rename_i hq
          exact ⟨decD_len (by simp; omega) (by decide), decD_ne n⟩
        · refine ⟨by rw [padD_len]; decide, fun h => ?_⟩
          have := padD_len 9 (n % 1000000000)
          rw [h] at this; simp at this
      · exact ih _ (by omega) c hc
theorem enc_at {B : Nat} (hB : 1 < B) : ∀ {i n d : Nat}, (enc B n)[i]? = some d → d = n / B ^ i % B
  | 0, n, d, h => by
    by_cases h0 : n = 0
    · subst h0; rw [enc_zero] at h; simp at h
    · rw [enc_pos hB h0] at h
      simpa using h.symm
  | i + 1, n, d, h => by
    by_cases h0 : n = 0
    · subst h0; rw [enc_zero] at h; simp at h
    · rw [enc_pos hB h0, List.getElem?_cons_succ] at h
      rw [enc_at hB h, Nat.div_div_eq_div_mul, Nat.pow_succ, Nat.mul_comm]
theorem top_pos {B n i : Nat} (hB : 1 < B) (hn : n ≠ 0) (hi : i < (enc B n).length) : 0 < n / B ^ i := by
 refine Nat.div_pos ?_ (Nat.pow_pos (by omega))
 exact Nat.le_trans (Nat.pow_le_pow_right (by omega) (by omega)) (enc_ge_pow hB hn)
theorem top_lt {B n : Nat} (hB : 1 < B) (hn : 0 < (enc B n).length) : n / B ^ ((enc B n).length - 1) < B := by
 have h := enc_len_pow (n := n) hB
 obtain ⟨k, hk⟩ : ∃ k, (enc B n).length = k + 1 := ⟨(enc B n).length - 1, by omega⟩
 rw [hk, Nat.pow_succ] at h
 rw [hk, Nat.add_sub_cancel]
 exact Nat.div_lt_of_lt_mul h
theorem div_step {B n i : Nat} : n / B ^ i = n / B ^ (i + 1) * B + n / B ^ i % B := by
 rw [Nat.pow_succ, ← Nat.div_div_eq_div_mul]
 have := Nat.div_add_mod (n / B ^ i) B
 rw [Nat.mul_comm] at this
 exact this.symm
def bytA (s : List UInt8) : List AV := s.map fun b => .int .u8 b.toNat
theorem bytA_length (s : List UInt8) : (bytA s).length = s.length := by simp [bytA]
theorem bytA_pure : ∀ s : List UInt8, AV.pureL (bytA s) = true
 | [] => rfl
 | _ :: s => by have := bytA_pure s; simp only [bytA] at this; simp [bytA, AV.pureL, AV.pure, this]
theorem bytesOf_bytA : ∀ s : List UInt8, bytesOf (bytA s) = some s
 | [] => rfl
 | c :: s => by
  have := bytesOf_bytA s
  simp only [bytA] at this
  simp [bytA, bytesOf, this]
theorem rI_re {m n : Nat} {q : Rat} (h1 : fits m q) (h2 : fits n q) : rI m q = rI n q := by rw [rI_eq h1, rI_eq h2]
theorem rS_re {m n : Nat} {q : Rat} (h1 : fits m q) (h2 : fits n q) : rS m q = rS n q := by rw [rS_eq h1, rS_eq h2]
theorem fits_sub {m n : Nat} {a b : Rat} (h1 : fits m a) (h2 : fits n b) : fits (m + n + 1) (a - b) := by
 rw [Rat.sub_eq_add_neg]; exact fits_add h1 (fits_neg h2)
def numS (q : Rat) : List UInt8 := (if q.num < 0 then [45] else []) ++ (Lib.decDigits q.num.natAbs ++ (if q.den = 1 then [] else 47 :: Lib.decDigits q.den))
def okR (q : Rat) : Bool := decide ((Lib.decDigits q.num.natAbs).length ≤ 200) && decide ((Lib.decDigits q.den).length ≤ 200)
def toldR (q : Rat) : Option (List UInt8) := if okR q then some (numS q) else none
def optT : Option (List UInt8) → AV
 | some s => .tup [.str s, .bool true]
 | none => .tup [.str [], .bool false]
@[simp] theorem optT_pure (o : Option (List UInt8)) : (optT o).pure = true := by cases o <;> simp [optT, AV.pure, AV.pureL]
theorem optT_s (s : List UInt8) : optT (some s) = .tup [.str s, .bool true] := rfl
theorem optT_n : optT none = .tup [.str [], .bool false] := rfl
theorem decD_len2 {n k : Nat} (h : n < 2 ^ k) (hk : 0 < k) : (Lib.decDigits n).length ≤ k := decD_len (Nat.lt_of_lt_of_le h (Nat.pow_le_pow_left (by decide) k)) hk
theorem numS_len {m : Nat} {q : Rat} (h : fits m q) : (Lib.decDigits q.num.natAbs).length ≤ m ∧ (Lib.decDigits q.den).length ≤ m := ⟨decD_len2 h.1 (fits_pos h), decD_len2 h.2 (fits_pos h)⟩

def mapF (n : Nat) (f : Nat → Rat) : List Rat := (List.range n).map f
theorem mapF_succ {n : Nat} {f : Nat → Rat} : mapF (n + 1) f = mapF n f ++ [f n] := by simp [mapF, List.range_succ]
theorem mapF_len {n : Nat} {f : Nat → Rat} : (mapF n f).length = n := by simp [mapF]
theorem mapF_at {n i : Nat} {f : Nat → Rat} (h : i < n) : (mapF n f)[i]? = some (f i) := by simp [mapF, h]
theorem mapF_congr {n : Nat} {f g : Nat → Rat} (h : ∀ i, i < n → f i = g i) : mapF n f = mapF n g := List.map_congr_left fun i hi => h i (List.mem_range.1 hi)
theorem mapF_fits {m n : Nat} {f : Nat → Rat} (h : ∀ i, i < n → fits m (f i)) : ∀ q ∈ mapF n f, fits m q := by
 intro q hq
 obtain ⟨i, hi, rfl⟩ := List.mem_map.1 hq
 exact h i (List.mem_range.1 hi)

def facP (k : Nat) : Nat → Int
 | 0 => 1
 | i + 1 => facP k i * ((k : Int) - i)
theorem facP_bd {k : Nat} (hk : k ≤ 12) : ∀ i, i ≤ 6 → (facP k i).natAbs ≤ 12 ^ i
 | 0, _ => by simp [facP]
 | i + 1, h => by
  have := facP_bd hk i (by omega)
  rw [facP, Int.natAbs_mul, Nat.pow_succ]
  exact Nat.mul_le_mul this (by omega)
theorem facP_lt {k i : Nat} (hk : k ≤ 12) (hi : i ≤ 6) : (facP k i).natAbs ≤ 2985984 := Nat.le_trans (facP_bd hk i hi) (Nat.le_trans (Nat.pow_le_pow_right (by decide) hi) (by decide))
theorem facP_fits {k i : Nat} (hk : k ≤ 12) (hi : i ≤ 6) : fits 64 (facP k i : Rat) := fits_int (Nat.lt_of_le_of_lt (facP_lt hk hi) (by decide)) (by decide)
def facSum (qs : List Rat) (n : Nat) : Nat → Rat
 | 0 => 0
 | k + 1 => facSum qs n k + qs.getD k 0 * (facP k n : Rat)
def subO (x : Rat) (o y : List Rat) (k : Nat) : Nat → Rat
 | 0 => x
 | i + 1 => subO x o y k i - o.getD i 0 * y.getD (k - i) 0
def overO (x y : List Rat) : Nat → List Rat
 | 0 => []
 | k + 1 => overO x y k ++ [subO (x.getD k 0) (overO x y k) y k k / y.getD 0 0]
theorem overO_len (x y : List Rat) : ∀ k, (overO x y k).length = k
 | 0 => rfl
 | k + 1 => by simp [overO, overO_len x y k]
def serR (xs : List (List UInt8)) : Option (List Rat) := if 1 ≤ xs.length ∧ xs.length ≤ 13 then listR xs else none
theorem serR_some {xs : List (List UInt8)} {qs : List Rat} (h : serR xs = some qs) : (∀ q ∈ qs, fits 700 q) ∧ qs.length = xs.length ∧ 1 ≤ qs.length ∧ qs.length ≤ 13 := by
  unfold serR at h
  split at h
  · rename_i hc
    obtain ⟨h1, h2, _⟩ := list_fits h
    exact ⟨h1, h2, by omega, by omega⟩
  · cases h
theorem facM_fits {qs : List Rat} {n : Nat} (hq : ∀ q ∈ qs, fits 700 q) (hl : qs.length ≤ 13) (hn : n ≤ 6) : ∀ k, k ≤ qs.length → fits (64 + k * 765) (facSum qs n k)
 | 0, _ => fits_int (n := 0) (by decide) (by decide)
 | k + 1, h => by
  have h1 := facM_fits hq hl hn k (by omega)
  have hk : k < qs.length := by omega
  have h2 : fits 700 (qs.getD k 0) := by
   rw [List.getD_eq_getElem?_getD, List.getElem?_eq_getElem hk]
   exact hq _ (List.getElem_mem hk)
  have h3 := fits_mul h2 (facP_fits (k := k) (i := n) (by omega) hn) (fits_pos h2)
  exact fits_mono (fits_add h1 h3) (by rw [Nat.add_mul]; omega)
theorem facP_wrap {k i : Nat} (hk : k ≤ 12) (hi : i < 6) : IntKind.i64.wrap (facP k i * ((k : Int) - (i : Int))) = facP k (i + 1) := by
 have h := facP_lt hk (show i + 1 ≤ 6 by omega)
 have e : facP k (i + 1) = facP k i * ((k : Int) - (i : Int)) := rfl
 rw [← e]
 exact wrapI (by omega) (by omega)
theorem facP_step {q : Rat} {k i : Nat} : q * (facP k i : Rat) * (((k : Int) - (i : Int) : Int) : Rat) = q * (facP k (i + 1) : Rat) := by
 rw [facP, Rat.intCast_mul, Rat.mul_assoc]
theorem getD_fits {qs : List Rat} (hq : ∀ q ∈ qs, fits 700 q) (i : Nat) : fits 700 (qs.getD i 0) := by
  rcases Nat.lt_or_ge i qs.length with h | h
  · rw [List.getD_eq_getElem?_getD, List.getElem?_eq_getElem h]
    exact hq _ (List.getElem_mem h)
  · rw [List.getD_eq_getElem?_getD, List.getElem?_eq_none h]
    exact fits_mono (fits_int (n := 0) (k := 64) (by decide) (by decide)) (by decide)
theorem toldL_len {qs : List Rat} {ts : List (List UInt8)} (h : qs.mapM toldR = some ts) : ts.length = qs.length := mapM_len h
def lesF (x y : List Rat) (i : Nat) : Rat := x.getD i 0 - y.getD i 0
def lesL (x y : List Rat) : List Rat := mapF x.length (lesF x y)
def ovrL (x y : List Rat) : List Rat := overO x y x.length
theorem getD_of {qs : List Rat} {i : Nat} {q : Rat} (h : qs[i]? = some q) : qs.getD i 0 = q := by rw [List.getD_eq_getElem?_getD, h]; rfl
def wgt (qs : List Rat) : Bool := (qs.all fun q => !decide (q < 0)) && decide (sumL qs = 1)
def wgtR (xs : List (List UInt8)) : Option (List Rat) :=
 match serR xs with
 | some qs => if wgt qs = true then some qs else none
 | none => none
theorem wgtR_some {xs : List (List UInt8)} {qs : List Rat} (h : wgtR xs = some qs) : serR xs = some qs ∧ sumL qs = 1 := by
  unfold wgtR at h
  split at h
  · split at h
    · rename_i h1 h2
      cases h
      simp only [wgt, Bool.and_eq_true, decide_eq_true_eq] at h2
      exact ⟨h1, h2.2⟩
    · cases h
  · cases h
theorem eq_parts {a b : Rat} : a = b ↔ (decide (a.num < 0) = decide (b.num < 0) ∧ a.num.natAbs * b.den = b.num.natAbs * a.den) := by
  have ha := a.den_pos
  have hb := b.den_pos
  constructor
  · rintro rfl; exact ⟨rfl, rfl⟩
  · rintro ⟨h1, h2⟩
    rw [Rat.eq_iff_mul_eq_mul]
    by_cases hn : a.num < 0
    · have hn' : b.num < 0 := by
        rw [decide_eq_true hn] at h1; simpa using h1.symm
      have e1 : a.num = -(a.num.natAbs : Int) := by omega
      have e2 : b.num = -(b.num.natAbs : Int) := by omega
      rw [e1, e2, Int.neg_mul, Int.neg_mul, ← Int.natCast_mul, ← Int.natCast_mul, h2]
    · have hn' : ¬ b.num < 0 := by
        rw [decide_eq_false hn] at h1; simpa using h1.symm
      have e1 : a.num = (a.num.natAbs : Int) := by omega
      have e2 : b.num = (b.num.natAbs : Int) := by omega
      rw [e1, e2, ← Int.natCast_mul, ← Int.natCast_mul, h2]
def negI : List Rat → Nat → Int
 | [], _ => -1
 | q :: qs, k => if q < 0 then (k : Int) else negI qs (k + 1)
theorem negI_ge : ∀ (qs : List Rat) (k : Nat), decide (0 ≤ negI qs k) = !(qs.all fun q => !decide (q < 0))
  | [], _ => by simp [negI]
  | q :: qs, k => by
    rw [negI]
    by_cases h : q < 0
    · simp [h]
    · rw [if_neg h, negI_ge qs (k + 1)]; simp [h]
theorem negI_at {qs : List Rat} {i : Nat} {q : Rat} (h : qs[i]? = some q) : negI (qs.drop i) i = if q < 0 then (i : Int) else negI (qs.drop (i + 1)) (i + 1) := by
 obtain ⟨hi, rfl⟩ := List.getElem?_eq_some_iff.1 h
 rw [List.drop_eq_getElem_cons hi, negI]
def wtsR (xs : List (List UInt8)) : Option (List Rat) :=
 match listR xs with
 | some qs => if wgt qs = true then some qs else none
 | none => none
def cd (D N : Nat) (q : Rat) : Prop := D ≠ 0 ∧ ∃ p : Int, q = mkRat p D ∧ p.natAbs ≤ N
theorem cd_zero {D N : Nat} (h : D ≠ 0) : cd D N 0 := ⟨h, 0, by simp, by simp⟩
theorem cd_mono {D N N' : Nat} {q : Rat} (h : cd D N q) (hn : N ≤ N') : cd D N' q := by
 obtain ⟨h1, p, h2, h3⟩ := h
 exact ⟨h1, p, h2, Nat.le_trans h3 hn⟩
theorem cd_add {D M N : Nat} {a b : Rat} (ha : cd D M a) (hb : cd D N b) : cd D (M + N) (a + b) := by
 obtain ⟨h1, p, h2, h3⟩ := ha
 obtain ⟨_, q, h5, h6⟩ := hb
 refine ⟨h1, p + q, add_common h2 h5, ?_⟩
 have := Int.natAbs_add_le p q
 omega
theorem cd_mul {D E M N : Nat} {a b : Rat} (ha : cd D M a) (hb : cd E N b) : cd (D * E) (M * N) (a * b) := by
 obtain ⟨h1, p, rfl, h3⟩ := ha
 obtain ⟨h4, q, rfl, h6⟩ := hb
 refine ⟨Nat.mul_ne_zero h1 h4, p * q, Rat.mkRat_mul_mkRat _ _ _ _, ?_⟩
 rw [Int.natAbs_mul]
 exact Nat.mul_le_mul h3 h6
theorem cd_lift {D E N : Nat} {q : Rat} (h : cd D N q) (he : E ≠ 0) : cd (D * E) (N * E) q := by
 obtain ⟨h1, p, rfl, h3⟩ := h
 refine ⟨Nat.mul_ne_zero h1 he, p * E, (Rat.mkRat_mul_right he).symm, ?_⟩
 rw [Int.natAbs_mul, Int.natAbs_natCast]
 exact Nat.mul_le_mul_right _ h3
theorem cd_fits {D N n : Nat} {q : Rat} (h : cd D N q) (hD : D < 2 ^ n) (hN : N < 2 ^ n) (hn : 0 < n) : fits n q := by
 obtain ⟨_, p, rfl, h3⟩ := h
 exact fits_mkRat (Nat.lt_of_le_of_lt h3 hN) hD hn
theorem cd_of {m : Nat} {q : Rat} (h : fits m q) : cd q.den (2 ^ m) q := ⟨q.den_nz, q.num, (Rat.mkRat_self q).symm, Nat.le_of_lt h.1⟩
theorem cd_list {m : Nat} : ∀ (qs : List Rat), (∀ q ∈ qs, fits m q) → ∃ D, D ≠ 0 ∧ D ≤ 2 ^ (m * qs.length) ∧ ∀ q ∈ qs, cd D (2 ^ (m * qs.length + m)) q
  | [], _ => ⟨1, by decide, by simp, by simp⟩
  | a :: qs, h => by
    obtain ⟨D, h1, h2, h3⟩ := cd_list qs fun q hq => h q (by simp [hq])
    have ha := h a (by simp)
    have e : m * (a :: qs).length = m + m * qs.length := by rw [List.length_cons, Nat.mul_succ]; omega
    refine ⟨a.den * D, Nat.mul_ne_zero a.den_nz h1, ?_, fun q hq => ?_⟩
    · rw [e, Nat.pow_add]
      exact Nat.mul_le_mul (Nat.le_of_lt ha.2) h2
    · rw [e]
      rcases List.mem_cons.1 hq with rfl | hq
      · refine cd_mono (cd_lift (cd_of ha) h1) ?_
        rw [show m + m * qs.length + m = m + (m * qs.length + m) by omega, Nat.pow_add]
        exact Nat.mul_le_mul (Nat.le_refl _) (Nat.le_trans h2 (Nat.pow_le_pow_right (by decide) (by omega)))
      · have := cd_lift (h3 q hq) (E := a.den) a.den_nz
        rw [Nat.mul_comm] at this
        refine cd_mono this ?_
        rw [show m + m * qs.length + m = (m * qs.length + m) + m by omega, Nat.pow_add 2 (m * qs.length + m) m]
        exact Nat.mul_le_mul (Nat.le_refl _) (Nat.le_of_lt ha.2)
def pcv (x y : List Rat) (k : Nat) : Nat → Rat
 | 0 => 0
 | i + 1 => if i ≤ k then pcv x y k i + x.getD i 0 * y.getD (k - i) 0 else pcv x y k i
def timF (x y : List Rat) (k : Nat) : Rat := pcv x y k (k + 1)
def timL (x y : List Rat) : List Rat := mapF x.length (timF x y)
theorem pcv_stop {x y : List Rat} {k : Nat} : ∀ {i}, k + 1 ≤ i → pcv x y k i = timF x y k
  | 0, h => by omega
  | i + 1, h => by
    rcases Nat.eq_or_lt_of_le h with h' | h'
    · obtain rfl : i = k := by omega
      rfl
    · rw [pcv, if_neg (by omega)]; exact pcv_stop (by omega)
theorem cd_getD {D N : Nat} {qs : List Rat} (hD : D ≠ 0) (h : ∀ q ∈ qs, cd D N q) (i : Nat) : cd D N (qs.getD i 0) := by
  rcases Nat.lt_or_ge i qs.length with h' | h'
  · rw [List.getD_eq_getElem?_getD, List.getElem?_eq_getElem h']; exact h _ (List.getElem_mem h')
  · rw [List.getD_eq_getElem?_getD, List.getElem?_eq_none h']; exact cd_zero hD
theorem pcv_cd {D E M N : Nat} {x y : List Rat} (hD : D ≠ 0) (hE : E ≠ 0) (hx : ∀ q ∈ x, cd D M q) (hy : ∀ q ∈ y, cd E N q) (k : Nat) : ∀ i, cd (D * E) (i * (M * N)) (pcv x y k i)
  | 0 => cd_zero (Nat.mul_ne_zero hD hE)
  | i + 1 => by
    have ih := pcv_cd hD hE hx hy k i
    rw [pcv]
    split
    · refine cd_mono (cd_add ih (cd_mul (cd_getD hD hx i) (cd_getD hE hy (k - i)))) ?_
      rw [Nat.succ_mul]; exact Nat.le_refl _
    · exact cd_mono ih (Nat.mul_le_mul_right _ (by omega))
theorem timL_len {x y : List Rat} : (timL x y).length = x.length := mapF_len
def oneF (i : Nat) : Rat := if i = 0 then 1 else 0
def oneL (n : Nat) : List Rat := mapF n oneF
def powL (x : List Rat) : Nat → List Rat
 | 0 => oneL x.length
 | n + 1 => timL (powL x n) x
theorem powL_len (x : List Rat) : ∀ n, (powL x n).length = x.length
 | 0 => mapF_len
 | n + 1 => by rw [powL, timL_len, powL_len x n]
theorem oneL_cd {n : Nat} : ∀ q ∈ oneL n, cd 1 1 q := by
  intro q hq
  obtain ⟨i, hi, rfl⟩ := List.mem_map.1 hq
  unfold oneF
  split
  · exact ⟨by decide, 1, by rfl, by decide⟩
  · exact cd_zero (by decide)
theorem powL_cd {D N : Nat} {x : List Rat} (hD : D ≠ 0) (hx : ∀ q ∈ x, cd D N q) : ∀ n, ∀ q ∈ powL x n, cd (D ^ n) ((x.length * N) ^ n) q
 | 0 => by
  intro q hq
  simpa using oneL_cd q hq
 | n + 1 => by
  intro q hq
  rw [powL, timL] at hq
  obtain ⟨k, hk, rfl⟩ := List.mem_map.1 hq
  have hk' : k < x.length := by rw [powL_len] at hk; simpa using hk
  have := pcv_cd (Nat.pow_pos (Nat.pos_of_ne_zero hD) |> Nat.ne_of_gt : D ^ n ≠ 0) hD (powL_cd hD hx n) hx k (k + 1)
  rw [Nat.pow_succ, Nat.pow_succ]
  refine cd_mono this ?_
  rw [Nat.mul_left_comm]
  exact Nat.mul_le_mul_left _ (Nat.mul_le_mul_right _ (by omega))
theorem mapF_set {n p : Nat} {f : Nat → Rat} {v : Rat} : (mapF n f).set p v = mapF n (fun k => if k = p then v else f k) := by
  apply List.ext_getElem
  · simp [mapF]
  · intro i h1 h2
    simp only [mapF, List.getElem_set, List.getElem_map, List.getElem_range]
    by_cases e : p = i
    · rw [if_pos e, if_pos e.symm]
    · rw [if_neg e, if_neg (fun h => e h.symm)]
def stT (x y : List Rat) (i j k : Nat) : Rat := if i ≤ k ∧ k < i + j then pcv x y k (i + 1) else pcv x y k i
theorem stT_next {x y : List Rat} {L i j : Nat} : (mapF L (stT x y i j)).set (i + j) (pcv x y (i + j) (i + 1)) = mapF L (stT x y i (j + 1)) := by
  rw [mapF_set]
  refine mapF_congr fun k hk => ?_
  unfold stT
  by_cases e : k = i + j
  · subst e; rw [if_pos rfl, if_pos (by omega)]
  · rw [if_neg e]
    by_cases c : i ≤ k ∧ k < i + j
    · rw [if_pos c, if_pos (by omega)]
    · rw [if_neg c, if_neg (by omega)]
theorem stT_at {x y : List Rat} {i j : Nat} : stT x y i j (i + j) = pcv x y (i + j) i := by unfold stT; rw [if_neg (by omega)]
theorem stT_zero {x y : List Rat} {L i : Nat} : mapF L (fun k => pcv x y k i) = mapF L (stT x y i 0) := mapF_congr fun k hk => by unfold stT; rw [if_neg (by omega)]
theorem getD_out {qs : List Rat} {i : Nat} (h : qs.length ≤ i) : qs.getD i 0 = 0 := by rw [List.getD_eq_getElem?_getD, List.getElem?_eq_none h]; rfl
theorem stT_end {x y : List Rat} {L i j : Nat} (he : y.length ≤ j ∨ L ≤ i + j) : mapF L (stT x y i j) = mapF L (fun k => pcv x y k (i + 1)) := by
  refine mapF_congr fun k hk => ?_
  unfold stT
  by_cases c : i ≤ k ∧ k < i + j
  · rw [if_pos c]
  · rw [if_neg c, pcv]
    by_cases g : i ≤ k
    · have hz : y.getD (k - i) 0 = 0 := getD_out (by omega)
      rw [if_pos g, hz, Rat.mul_zero, Rat.add_zero]
    · rw [if_neg g]
theorem pcv_end {x y : List Rat} : mapF x.length (fun k => pcv x y k x.length) = timL x y := mapF_congr fun k hk => pcv_stop (by omega)
theorem pcv_step {x y : List Rat} {k i : Nat} {p q : Rat} (h : i ≤ k) (hp : x[i]? = some p) (hq : y[k - i]? = some q) : pcv x y k (i + 1) = pcv x y k i + p * q := by rw [pcv, if_pos h, getD_of hp, getD_of hq]
theorem pcv_skip {x y : List Rat} {k i : Nat} (hq : y.length ≤ k - i) : pcv x y k (i + 1) = pcv x y k i := by
  rw [pcv]; split
  · rw [getD_out hq, Rat.mul_zero, Rat.add_zero]
  · rfl
theorem zero_fits (m : Nat) (hm : 0 < m) : fits m 0 := fits_int (n := 0) (by simpa using Nat.pow_pos (by decide)) hm
theorem pcv_fits {m n : Nat} {x y : List Rat} (hm : 0 < m) (hx : ∀ i, fits m (x.getD i 0)) (hy : ∀ i, fits n (y.getD i 0)) (k : Nat) : ∀ i, fits (64 + i * (m + n + 1)) (pcv x y k i)
  | 0 => zero_fits _ (by omega)
  | i + 1 => by
    have ih := pcv_fits hm hx hy k i
    rw [pcv]; split
    · exact fits_mono (fits_add ih (fits_mul (hx i) (hy (k - i)) hm)) (by rw [Nat.succ_mul]; omega)
    · exact fits_mono ih (by rw [Nat.succ_mul]; omega)
theorem zeros_F {m M L : Nat} {x y : List Rat} (hm : 0 < m) (hM : 0 < M) : ratL m (List.replicate L 0) = ratL M (mapF L (fun k => pcv x y k 0)) := by
  have e : mapF L (fun k => pcv x y k 0) = List.replicate L 0 := by
    apply List.ext_getElem
    · simp [mapF]
    · intro i h1 h2; simp [mapF, pcv]
  rw [e, ratL, ratL]
  refine List.map_congr_left fun q hq => ?_
  obtain rfl := List.eq_of_mem_replicate hq
  exact rI_re (zero_fits _ hm) (zero_fits _ hM)
def bigP : Nat := 262144
theorem two_pow_le {a b k K : Nat} (h : a ≤ 2 ^ b) (hk : b * k ≤ K) : a ^ k ≤ 2 ^ K :=
 Nat.le_trans (Nat.pow_le_pow_left h k) (by rw [← Nat.pow_mul]; exact Nat.pow_le_pow_right (by decide) hk)
theorem two_pow_lt {a b c : Nat} (h : a ≤ 2 ^ b) (hb : b < c) : a < 2 ^ c := Nat.lt_of_le_of_lt h (Nat.pow_lt_pow_right (by decide) hb)
theorem mul_pow_le {L k a : Nat} (h : L ≤ 2 ^ k) : L * 2 ^ a ≤ 2 ^ (k + a) := by rw [Nat.pow_add]; exact Nat.mul_le_mul_right _ h
theorem mul_pow_le3 {i X a b c : Nat} (h1 : i ≤ 2 ^ a) (h2 : X ≤ 2 ^ b) : i * (X * 2 ^ c) ≤ 2 ^ (a + (b + c)) := by
 rw [Nat.pow_add 2 a, Nat.pow_add 2 b]
 exact Nat.mul_le_mul h1 (Nat.mul_le_mul_right _ h2)
theorem pow_fits {x : List Rat} (hx : ∀ q ∈ x, fits 700 q) (hl : x.length ≤ 13) (h1 : 1 ≤ x.length) {n : Nat} (hn : n ≤ 20) : (∀ q ∈ powL x n, fits bigP q) ∧ ∀ k i, i ≤ 14 → n < 20 → fits bigP (pcv (powL x n) x k i) := by
  obtain ⟨D, hD, hDl, hc⟩ := cd_list x hx
  obtain ⟨B, hB⟩ : ∃ B, B = 700 * x.length := ⟨_, rfl⟩
  rw [← hB] at hDl hc
  have hB2 : B ≤ 9100 := by omega
  obtain ⟨C, hC⟩ : ∃ C, C = B + 700 := ⟨_, rfl⟩
  rw [← hC] at hc
  have hN : x.length * 2 ^ C ≤ 2 ^ (4 + C) := mul_pow_le (Nat.le_trans hl (by decide))
  have hp := powL_cd hD hc n
  have hD0 : 0 < D := Nat.pos_of_ne_zero hD
  refine ⟨fun q hq => cd_fits (hp q hq) (two_pow_lt (two_pow_le hDl (K := B * n) (Nat.le_refl _)) ?_) (two_pow_lt (two_pow_le hN (K := (4 + C) * n) (Nat.le_refl _)) ?_) (by unfold bigP; omega), fun k i hi hn2 => ?_⟩
  · have := Nat.mul_le_mul hB2 hn
    unfold bigP; omega
  · have := Nat.mul_le_mul (show 4 + C ≤ 9804 by omega) hn
    unfold bigP; omega
  · have h := pcv_cd (Nat.ne_of_gt (Nat.pow_pos hD0) : D ^ n ≠ 0) hD hp hc k i
    rw [← Nat.pow_succ] at h
    have e1 := Nat.mul_le_mul hB2 (show n + 1 ≤ 20 by omega)
    have e2 := Nat.mul_le_mul (show 4 + C ≤ 9804 by omega) hn
    have a1 : i ≤ 2 ^ 4 := Nat.le_trans hi (by decide)
    have a2 := two_pow_le hN (k := n) (K := (4 + C) * n) (Nat.le_refl _)
    have a3 := mul_pow_le3 (c := C) a1 a2
    exact cd_fits h (two_pow_lt (two_pow_le hDl (K := B * (n + 1)) (Nat.le_refl _)) (by unfold bigP; omega)) (two_pow_lt a3 (by unfold bigP; omega)) (by unfold bigP; omega)
def fitL (x : List Rat) (n : Nat) : List Rat := mapF n (fun i => x.getD i 0)
theorem fitL_len {x : List Rat} {n : Nat} : (fitL x n).length = n := mapF_len
theorem fitL_getD {x : List Rat} {n i : Nat} (h : i < n) : (fitL x n).getD i 0 = x.getD i 0 := getD_of (mapF_at h)
theorem fit_take {x : List Rat} {n : Nat} : (x ++ List.replicate n 0).take n = fitL x n := by
  apply List.ext_getElem
  · simp [fitL, mapF]
  · intro i h1 h2
    have hi : i < n := by simpa [fitL, mapF] using h2
    simp only [fitL, mapF, List.getElem_take, List.getElem_map, List.getElem_range, List.getElem_append, List.getElem_replicate]
    split
    · rename_i h; rw [List.getD_eq_getElem?_getD, List.getElem?_eq_getElem h]; rfl
    · rename_i h; rw [getD_out (by omega)]
theorem fitL_fits {x : List Rat} {n : Nat} (hx : ∀ q ∈ x, fits 700 q) : ∀ q ∈ fitL x n, fits 700 q := mapF_fits fun i _ => getD_fits hx i
theorem pcv_congr {x y z : List Rat} {k : Nat} (h : ∀ j, j ≤ k → y.getD j 0 = z.getD j 0) : ∀ i, pcv x y k i = pcv x z k i
 | 0 => rfl
 | i + 1 => by rw [pcv, pcv, pcv_congr h i, h (k - i) (by omega)]
theorem tim_fitL {a x : List Rat} {n : Nat} (h : a.length = n) : timL a x = timL a (fitL x n) := by
 unfold timL
 refine mapF_congr fun k hk => ?_
 exact pcv_congr (fun j hj => (fitL_getD (by omega)).symm) _
def bpow (x : List Rat) (n : Nat) : Nat → List Rat
 | 0 => oneL n
 | m + 1 => timL (bpow x n m) x
theorem bpow_len (x : List Rat) (n : Nat) : ∀ m, (bpow x n m).length = n
 | 0 => mapF_len
 | m + 1 => by rw [bpow, timL_len, bpow_len x n m]
theorem bpow_eq (x : List Rat) (n : Nat) : ∀ m, bpow x n m = powL (fitL x n) m
 | 0 => by rw [bpow, powL, fitL_len]
 | m + 1 => by rw [bpow, powL, tim_fitL (bpow_len x n m), bpow_eq x n m]
def busF (x : List Rat) (n : Nat) : Rat := (powL (fitL x n) n).getD (n - 1) 0 / ((n : Int) : Rat)
def busT (xs : List (List UInt8)) (n : Int) : Option (List UInt8) :=
 match wgtR xs with
 | some x => if 1 ≤ n ∧ n ≤ 12 then toldR (busF x n.toNat) else none
 | none => none
theorem s_int : szT Tryz.prog 3 = 1 := by kernel_rfl
theorem g_int : aggT Tryz.prog 3 = false := by kernel_rfl
attribute [go_sem] s_int g_int
structure Mdl where
 room : Int
 come : List UInt8
 serve : List UInt8
 reward : List UInt8
 cost : List UInt8
def Mdl.small (m : Mdl) : Prop := m.come.length ≤ 1000000 ∧ m.serve.length ≤ 1000000 ∧ m.reward.length ≤ 1000000 ∧ m.cost.length ≤ 1000000
structure MR where
 room : Nat
 come : Rat
 serve : Rat
 reward : Rat
 cost : Rat
def modOk (m : Mdl) (c s r k : Rat) : Prop := 1 ≤ m.room ∧ m.room ≤ 8 ∧ 0 < c ∧ 0 < s ∧ 0 ≤ r ∧ 0 ≤ k ∧ c + s ≤ 1
instance (m : Mdl) (c s r k : Rat) : Decidable (modOk m c s r k) := by unfold modOk; infer_instance
abbrev MR.sv (x : MR) : AV := .agg [.int .i64 x.room, .bool (decide (x.come.num < 0)), tS 700 x.come, dS 700 x.come, .bool (decide (x.serve.num < 0)), tS 700 x.serve, dS 700 x.serve,
 .bool (decide ((1 - x.come - x.serve).num < 0)), tS 1466 (1 - x.come - x.serve), dS 1466 (1 - x.come - x.serve), .bool (decide (x.reward.num < 0)), tS 700 x.reward, dS 700 x.reward, .bool (decide (x.cost.num < 0)), tS 700 x.cost, dS 700 x.cost]
abbrev zeroMS : AV := .agg [.int .i64 0, .bool false, .nil, .nil, .bool false, .nil, .nil, .bool false, .nil, .nil, .bool false, .nil, .nil, .bool false, .nil, .nil]
def modS : Option MR → AV
 | some x => .tup [x.sv, .bool true]
 | none => .tup [zeroMS, .bool false]
theorem modS_s (x : MR) : modS (some x) = .tup [x.sv, .bool true] := rfl
theorem modS_n : modS none = .tup [zeroMS, .bool false] := rfl
attribute [go_sem] modS_s modS_n
section
variable {P : Program} {W : FuncId → Bool} {d : Option Tmp} {ops : Array Oper} {os : List Oper} {fr : Nat → AV} {h : Nat → Blk} {nx : Nat} {K : St → Prop} {t : TokC ⟨d, ops, os, fr, h, nx, K⟩} {g : FuncId} {al : List AV}
theorem CallOk.inOkT {sargs : List AV} {T : Nat} {xs sp : List AV} {ex b : Bool} (hc : CallOk P g sargs (.tup [.own T xs sp ex, .bool b]) []) (hp : AV.pureL sargs = true) (hr : AV.pureL xs = true) (hs : AV.pureL sp = true) :
  InOk P ⟨fr, h, nx⟩ g sargs (.tup [.ref nx (xs.length + sp.length) 0 xs.length, .bool b]) ⟨fr, upd h nx ⟨T, xs ++ sp, ex, true, true⟩, nx + 1⟩ := by
 have he : eatH (outH h [] []) [] = h := by funext i; simp [eatH, outH]
 have : CallStep P ⟨fr, h, nx⟩ g sargs (.tup [.ref nx (xs.length + sp.length) 0 xs.length, .bool b]) ⟨fr, upd h nx ⟨T, xs ++ sp, ex, true, true⟩, nx + 1⟩ :=
  ⟨sargs.map fun _ => .snap, sargs, [], [], [], .tup [.own T xs sp ex, .bool b], [], passL_pure hp, hc, by simp, by simp, .inl rfl, .inl rfl, by
  simp only [matA, matL, matL_pure _ _ _ hr, matL_pure _ _ _ hs, he, St.new]⟩
 exact this.inOk
theorem callW_X {sargs : List AV} {ids : List Nat} {r x : AV} {st' : St} (hc : CallOk P g sargs r []) (hg : callable P g = true) (hs : snapL (snapA ⟨fr, h, nx⟩ 8) al = some (sargs, ids)) (ht : r.solid = true) (hm : matA true r ⟨fr, h, nx⟩ = (x, st')) (hW : W g = true)
    (hk : wpos P W ops os (st'.put d x) K) : callW P W g al ⟨d, ops, os, fr, h, nx, K⟩ t := by
  have he : eatH (outH h [] []) [] = h := by funext i; simp [eatH, outH]
  refine callW_of (pm := al.map fun _ => .snap) (outs := []) hc hg (passL_snap' hs) ?_ (by simp) (by simp) (.inr ⟨ht, rfl⟩) (.inl rfl) ?_ ?_
  · intro hw; rw [hW] at hw; cases hw
  · intro hw; rw [hW] at hw; cases hw
  · rw [he, hm]; exact hk
end
abbrev CWT (P : Program) (g : FuncId) (al : List AV) (T : Nat) (xs sp : List AV) (ex b : Bool) : Prop :=
 ∀ (W : FuncId → Bool) (d : Option Tmp) (ops : Array Oper) (os : List Oper) (fr : Nat → AV) (h : Nat → Blk) (nx : Nat) (K : St → Prop) (t : TokC ⟨d, ops, os, fr, h, nx, K⟩), W g = true →
  callW P W g al ⟨d, ops, os, fr, h, nx, K⟩ t = (Hid (callW P W g al ⟨d, ops, os, fr, h, nx, K⟩ .mk) .mk ∨ wpos P W ops os (St.put ⟨fr, upd h nx ⟨T, xs ++ sp, ex, true, true⟩, nx + 1⟩ d (.tup [.ref nx (xs.length + sp.length) 0 xs.length, .bool b])) K)
theorem cwt {P : Program} {g : FuncId} {al : List AV} {T : Nat} {xs sp : List AV} {ex b : Bool} (hg : callable P g = true) (hp : AV.pureL al = true) (hr : AV.pureL xs = true) (hs : AV.pureL sp = true) (hc : CallOk P g al (.tup [.own T xs sp ex, .bool b]) []) : CWT P g al T xs sp ex b := by
 intro W d ops os fr h nx K t hW
 cases t
 exact orHid fun hk => ⟨hg, _, _, hc.inOkT hp hr hs, fun hw => (by rw [hW] at hw; cases hw), fun hw => (by rw [hW] at hw; cases hw), hk⟩
theorem cwtW {P : Program} {g : FuncId} {al : List AV} {T : Nat} {xs sp : List AV} {ex b : Bool} {W : FuncId → Bool} (hW : W g = true) (h : CWT P g al T xs sp ex b) (d : Option Tmp) (ops : Array Oper) (os : List Oper) (fr : Nat → AV) (h0 : Nat → Blk) (nx : Nat) (K : St → Prop) (t : TokC ⟨d, ops, os, fr, h0, nx, K⟩) :
  callW P W g al ⟨d, ops, os, fr, h0, nx, K⟩ t = (Hid (callW P W g al ⟨d, ops, os, fr, h0, nx, K⟩ .mk) .mk ∨ wpos P W ops os (St.put ⟨fr, upd h0 nx ⟨T, xs ++ sp, ex, true, true⟩, nx + 1⟩ d (.tup [.ref nx (xs.length + sp.length) 0 xs.length, .bool b])) K) := h W d ops os fr h0 nx K t hW
theorem matA_ownB {T : Nat} {xs sp : List AV} {ex b : Bool} {fr : Nat → AV} {h : Nat → Blk} {nx : Nat} (hr : AV.pureL xs = true) (hs : AV.pureL sp = true) :
  matA true (.tup [.own T xs sp ex, .bool b]) ⟨fr, h, nx⟩ = (.tup [.ref nx (xs.length + sp.length) 0 xs.length, .bool b], ⟨fr, upd h nx ⟨T, xs ++ sp, ex, true, true⟩, nx + 1⟩) := by
 simp only [matA, matL, matL_pure _ _ _ hr, matL_pure _ _ _ hs, St.new]
theorem t_bytes : elT Tryz.prog 100 = some 5 := by kernel_rfl
theorem o_bytes : okT Tryz.prog 100 = true := by kernel_rfl
theorem g_uint8 : aggT Tryz.prog 5 = false := by kernel_rfl
theorem i_uint8 : (Tryz.prog.info? 5).isSome = true := by kernel_rfl
theorem s_uint8 : szT Tryz.prog 5 = 1 := by kernel_rfl
theorem b_uint8 : byT Tryz.prog 5 = 1 := by kernel_rfl
theorem z_uint8 : zeroA Tryz.prog 5 = some (.int .u8 0) := by kernel_rfl
theorem zk_uint8 : zokT Tryz.prog 5 = true := by kernel_rfl
theorem w_uint8 : u32T Tryz.prog 5 = false := by kernel_rfl
theorem u8_uint8 : u8T Tryz.prog 5 = true := by kernel_rfl
theorem el_uint8 {n : Int} : AV.el Tryz.prog 5 (.int .u8 n) = true := by simp [AV.el, s_uint8, AV.cells, AV.one]
attribute [go_sem] t_bytes o_bytes g_uint8 i_uint8 s_uint8 b_uint8 z_uint8 zk_uint8 w_uint8 u8_uint8 el_uint8
def DecV (n i : Nat) (v : AV) (h : Nat → Blk) (nx : Nat) : Prop :=
 (i = 0 ∧ v = .ref 0 0 0 0 ∧ h 0 = ⟨5, [], true, true, true⟩) ∨ (i = 1 ∧ v = .sl 5 (bytA (padD 1 n)) [] true) ∨
 (2 ≤ i ∧ ∃ id ex, id < nx ∧ v = .ref id i 0 i ∧ h id = ⟨5, bytA (padD i n), ex, true, true⟩)
theorem padD_step (n : Nat) : ∀ i, padD (i + 1) n = UInt8.ofNat (48 + n / 10 ^ i % 10) :: padD i n
 | 0 => by simp [padD]
 | i + 1 => by
  have ih := padD_step (n / 10) i
  have e : n / 10 / 10 ^ i = n / 10 ^ (i + 1) := by rw [Nat.div_div_eq_div_mul, Nat.pow_succ, Nat.mul_comm]
  rw [padD, ih, e, padD]; rfl
theorem padD_dec {n i : Nat} (h1 : n < 10 ^ i) (h2 : i = 1 ∨ n / 10 ^ (i - 1) ≠ 0) (h0 : 1 ≤ i) : padD i n = Lib.decDigits n := by
  have hl : (Lib.decDigits n).length = i := by
    rw [Lib.decDigits_length]
    rcases h2 with rfl | h2
    · exact Lib.nDigits_small (by simpa using h1)
    · obtain ⟨k, rfl⟩ : ∃ k, i = k + 1 := ⟨i - 1, by omega⟩
      rw [Nat.add_sub_cancel] at h2
      refine Lib.nDigits_unique k n ?_ h1
      rcases Nat.lt_or_ge n (10 ^ k) with h | h
      · exact absurd (Nat.div_eq_of_lt h) h2
      · exact h
  rw [padD_eq i n h1 h0, hl, Nat.sub_self]; rfl
theorem dig_small {n i : Nat} (hn : n < 9223372036854775808) (h : n / 10 ^ i ≠ 0) : i ≤ 18 := by
  rcases Nat.lt_or_ge 18 i with h' | h'
  · exfalso
    apply h
    refine Nat.div_eq_of_lt (Nat.lt_of_lt_of_le hn ?_)
    exact Nat.le_trans (by decide) (Nat.pow_le_pow_right (show 0 < 10 by decide) (show 19 ≤ i by omega))
  · exact h'
theorem byte_nat {d : Nat} (h : d < 10) : ((48 + d : Nat) : Int) = ((UInt8.ofNat (48 + d)).toNat : Int) := by
 rw [UInt8.toNat_ofNat_of_lt' (Nat.lt_of_lt_of_le (show 48 + d < 256 by omega) (by decide))]
theorem div_ten {n i : Nat} : n / 10 ^ i / 10 = n / 10 ^ (i + 1) := by rw [Nat.div_div_eq_div_mul, Nat.pow_succ]
theorem nil_ne : (([] : List AV) ≠ []) = False := by simp
theorem w_sDec {n : Nat} (hn : n < 9223372036854775808) : CW Tryz.prog 153 [.int .i64 n] (.str (Lib.decDigits n)) := by
  refine cw (by kernel_rfl) (by simp [AV.pure, AV.pureL, natA_pure, natI_pure, natS_pure]) (by simp [AV.pure, AV.pureL, natA_pure, natI_pure, natS_pure]) ?_
  (refine callOk_of_wpc (W := fun _ => false) false hm' Tryz.func153 rfl (by kernel_rfl) (Nat.le_of_ble_eq_true rfl) (go_start ?_); generalize hQ : Post Tryz.prog Tryz.f153 _ _ _ _ _ = Q; simp only [stIn, matL, matA, st00])
  simp (disch := omega) only [go_sem, ↓k_cond, ↓x_idx, ↓k_block, Nat.reduceEqDiff, Nat.reduceBEq, ↓reduceIte, reduceCtorEq]
  refine k_loop (fun (i : Nat) st => st.fr 0 = .int .i64 n ∧ st.fr 4 = .int .i64 (n / 10 ^ i : Nat) ∧ DecV n i (st.fr 3) st.h st.nx ∧ 0 < st.nx ∧ (i = 0 ∨ i = 1 ∨ n / 10 ^ (i - 1) ≠ 0) ∧ i ≤ 19) (fun i => 20 - i) 0
    ⟨(by simp [upd_app] <;> omega), by simp [upd_app], .inl ⟨rfl, (by simp [upd_app] <;> omega), by simp [upd_app]⟩, (by simp <;> omega), .inl rfl, by omega⟩ ?_
  rintro i ⟨fr, h, nx⟩ ⟨g0, g4, gv, hnx, hi, hl⟩ J hJ
  simp only at g0 g4 gv hnx
  have hd : n / 10 ^ i % 10 < 10 := Nat.mod_lt _ (by decide)
  have h19 : n / 10 ^ i ≠ 0 → i ≤ 18 := dig_small hn
  have hps := padD_step n i
  have hex : n / 10 ^ i = 0 → 1 ≤ i → padD i n = Lib.decDigits n := fun h0 h1 => by
    have hlt : n < 10 ^ i := by
      rcases Nat.lt_or_ge n (10 ^ i) with h | h
      · exact h
      · exact absurd h0 (Nat.ne_of_gt (Nat.div_pos h (Nat.pow_pos (by decide))))
    exact padD_dec hlt (by omega) h1
  have hw : ∀ d : Nat, d < 10 → IntKind.u8.wrap (((48 + d : Nat) : Int)) = ((UInt8.ofNat (48 + d)).toNat : Int) := fun d hd => by rw [← byte_nat hd, wrapU8 (by omega) (by omega)]
  have hdiv : n / 10 ^ i / 10 = n / 10 ^ (i + 1) := div_ten
  have key : ∀ (st : St), st.fr 0 = .int .i64 n → st.fr 4 = .int .i64 ((n / 10 ^ i / 10 : Nat) : Int) → DecV n (i + 1) (st.fr 3) st.h st.nx → 0 < st.nx → (i = 0 ∨ n / 10 ^ i ≠ 0) → J st := by
    intro st k0 k4 kv kx kd
    have hl' : i ≤ 18 := kd.elim (fun h => by omega) h19
    exact hJ (i + 1) st ⟨k0, by rw [k4, hdiv], kv, kx, kd.elim (fun h => .inr (.inl (by omega))) (fun h => .inr (.inr h)), by omega⟩ (by omega)
  have hzn : n / 10 ^ i ≤ n := Nat.div_le_self _ _
  clear hJ hi h19 hdiv
  generalize n / 10 ^ i = z at *
  obtain ⟨e, he⟩ : ∃ e, z % 10 = e := ⟨_, rfl⟩
  rw [he] at hd hps
  clear hw
  have hb : bytA (padD (i + 1) n) = .int .u8 ((48 + e : Nat) : Int) :: bytA (padD i n) := by rw [hps, byte_nat hd]; rfl
  have hbl : (bytA (padD i n)).length = i := by rw [bytA_length, padD_len]
  rcases gv with ⟨rfl, g3, hm⟩ | ⟨rfl, g3⟩ | ⟨hi2, id, ex, hid, g3, hm⟩
  · clear hex hbl
    simp (disch := omega) only [go_sem, ↓k_cond, ↓x_idx, ↓k_block, Nat.reduceEqDiff, Nat.reduceBEq, ↓reduceIte, reduceCtorEq, g0, g4, g3, hm, he, nil_ne]
    exact key _ (by simp [upd_app, g0] <;> omega) (by simp [upd_app] <;> omega) (.inr (.inl ⟨rfl, by simp [upd_app, hb]; rfl⟩)) hnx (.inl rfl)
  · have hn1 : (bytA (padD 1 n) = []) = False := by
      refine eq_false fun h => ?_
      rw [h] at hbl; simp at hbl
    by_cases hz0 : z = 0
    · have hfin := hex hz0 (by omega)
      simp (disch := omega) only [go_sem, ↓k_cond, ↓x_idx, ↓k_block, Nat.reduceEqDiff, Nat.reduceBEq, ↓reduceIte, reduceCtorEq, g0, g4, g3, hbl, hz0, conA_sl, bytesOf_bytA]
      rw [← hQ]
      exact post_one (.inl rfl) rfl (by simp [upd_app, hfin]) rfl
    · clear hex
      simp (disch := omega) only [go_sem, ↓k_cond, ↓x_idx, ↓k_block, Nat.reduceEqDiff, Nat.reduceBEq, ↓reduceIte, reduceCtorEq, g0, g4, g3, he, hz0, hbl, hn1, reach]
      exact key _ (by simp [upd_app, g0] <;> omega) (by simp [upd_app] <;> omega) (.inr (.inr ⟨by omega, nx, false, by simp, by simp [upd_app], by simp [upd_app, hb]⟩)) (by simp) (.inr hz0)
  · have hn1 : (bytA (padD i n) = []) = False := by
      refine eq_false fun h => ?_
      rw [h] at hbl; simp at hbl; omega
    by_cases hz0 : z = 0
    · have hfin := hex hz0 (by omega)
      simp (disch := omega) only [go_sem, ↓k_cond, ↓x_idx, ↓k_block, Nat.reduceEqDiff, Nat.reduceBEq, ↓reduceIte, reduceCtorEq, g0, g4, g3, hm, hbl, hz0, conA_ref, bytesOf_bytA, List.take_of_length_le]
      rw [← hQ]
      exact post_one (.inl rfl) rfl (by simp [upd_app, hfin]) rfl
    · clear hex
      simp (disch := omega) only [go_sem, ↓k_cond, ↓x_idx, ↓k_block, Nat.reduceEqDiff, Nat.reduceBEq, ↓reduceIte, reduceCtorEq, g0, g4, g3, hm, he, hz0, hbl, hn1, reach, List.take_of_length_le]
      exact key _ (by simp [upd_app, g0] <;> omega) (by simp [upd_app] <;> omega) (.inr (.inr ⟨by omega, nx, false, by simp, by simp [upd_app]; omega, by simp [upd_app, hb]⟩)) (by simp) (.inr hz0)
theorem dec_bound {n k : Nat} (h : (enc B9 n).length ≤ k) (hk : 0 < k) : (Lib.decDigits n).length ≤ 9 * k := by
 have h1 : n < B9 ^ k := Nat.lt_of_lt_of_le (enc_len_pow B9_gt) (Nat.pow_le_pow_right (by decide) h)
 have h2 : B9 = 10 ^ 9 := rfl
 rw [h2, ← Nat.pow_mul] at h1
 exact decD_len h1 (by omega)
attribute [go_sem] w_sDec
theorem w_sNatText {n : Nat} (hn : (enc B9 n).length ≤ 274877906944) : CW Tryz.prog 136 [natS n] (.str (Lib.decDigits n)) := by
  refine cw (by kernel_rfl) (by simp [AV.pure, AV.pureL, natA_pure, natI_pure, natS_pure]) (by simp [AV.pure, AV.pureL, natA_pure, natI_pure, natS_pure]) ?_
  by_cases hz : n = 0
  · subst hz
    rw [decD_zero]
    (refine callOk_of_wpc (W := fun _ => false) false hm' Tryz.func136 rfl (by kernel_rfl) (Nat.le_of_ble_eq_true rfl) (go_start ?_); generalize hQ : Post Tryz.prog Tryz.f136 _ _ _ _ _ = Q; simp only [stIn, matL, matA, st00, natS])
    simp (disch := omega) only [go_sem, ↓k_cond, ↓x_idx, ↓k_block, Nat.reduceEqDiff, Nat.reduceBEq, ↓reduceIte, reduceCtorEq, enc_zero, natA_nil, List.length_nil]
    rw [← hQ]
    exact post_one (.inl rfl) rfl (by simp [upd_app] <;> omega) rfl
  have hpos := enc_len_pos B9_gt hz
  obtain ⟨L, hL⟩ : ∃ L, (enc B9 n).length = L := ⟨_, rfl⟩
  rw [hL] at hn hpos
  obtain ⟨t, ht⟩ := get_some (xs := enc B9 n) (i := L - 1) (by omega)
  have htv := enc_at B9_gt ht
  have htop := top_lt (n := n) B9_gt (by omega)
  rw [hL] at htop
  have htt : t = n / B9 ^ (L - 1) := by rw [htv]; exact Nat.mod_eq_of_lt htop
  have ht9 : t < 1000000000 := by rw [htt]; exact htop
  have e1 : ((L : Int) - 1).toNat = L - 1 := by omega
  have hdl : ∀ i, (Lib.decDigits (n / B9 ^ i)).length ≤ 4611686018427387904 := fun i => by
    have := dec_bound (n := n / B9 ^ i) (k := 274877906944) (Nat.le_trans (enc_len_mono B9_gt (Nat.div_le_self _ _)) (by rw [hL]; exact hn)) (by decide)
    omega
  have hd0 := w_sDec (n := t) (by omega)
  (refine callOk_of_wpc (W := fun _ => false) false hm' Tryz.func136 rfl (by kernel_rfl) (Nat.le_of_ble_eq_true rfl) (go_start ?_); generalize hQ : Post Tryz.prog Tryz.f136 _ _ _ _ _ = Q; simp only [stIn, matL, matA, st00, natS])
  simp (disch := omega) only [go_sem, ↓k_cond, ↓x_idx, ↓k_block, Nat.reduceEqDiff, Nat.reduceBEq, ↓reduceIte, reduceCtorEq, hL, e1, ht, hd0]
  (repeat (with_reducible refine Or.inr ?_))
  refine k_loop (fun (i : Nat) st => st.fr 0 = natS n ∧ st.fr 3 = .str (Lib.decDigits (n / B9 ^ i)) ∧ st.fr 4 = .int .i64 ((i : Int) - 1) ∧ i < L) (fun i => i) (L - 1) ⟨(by simp [upd_app, natS] <;> omega), by simp [upd_app, htt], by simp [upd_app]; omega, by omega⟩ ?_
  rintro i ⟨fr, h, nx⟩ ⟨g0, g3, g4, hi⟩ J hJ
  simp only [natS] at g0 g3 g4
  by_cases hi0 : i = 0
  · subst hi0
    rw [Nat.pow_zero, Nat.div_one] at g3
    simp (disch := omega) only [go_sem, ↓k_cond, ↓x_idx, ↓k_block, Nat.reduceEqDiff, Nat.reduceBEq, ↓reduceIte, reduceCtorEq, g0, g3, g4]
    rw [← hQ]
    exact post_one (.inl rfl) rfl (by simp [upd_app] <;> omega) rfl
  · obtain ⟨k, rfl⟩ : ∃ k, i = k + 1 := ⟨i - 1, by omega⟩
    obtain ⟨d, hd⟩ := get_some (xs := enc B9 n) (i := k) (by omega)
    have hdv := enc_at B9_gt hd
    have hd9 : d < 1000000000 := by rw [hdv]; exact Nat.mod_lt _ (by decide)
    have e2 : (((k + 1 : Nat) : Int) - 1).toNat = k := by omega
    have hdd := w_sDec (n := d + 1000000000) (by omega)
    rw [decD_nine hd9] at hdd
    have hcat := decD_pad9 (q := n / B9 ^ (k + 1)) (r := d) (top_pos B9_gt hz (by omega)) hd9
    have hst := div_step (B := B9) (n := n) (i := k)
    rw [← hdv] at hst
    have hst' : n / B9 ^ (k + 1) * 1000000000 + d = n / B9 ^ k := hst.symm
    rw [hst'] at hcat
    have hlk := hdl (k + 1)
    have hp9 := padD_len 9 d
    have hdr : List.drop (Int.toNat 1) (49 :: padD 9 d) = padD 9 d := rfl
    simp (disch := omega) only [go_sem, ↓k_cond, ↓x_idx, ↓k_block, Nat.reduceEqDiff, Nat.reduceBEq, ↓reduceIte, reduceCtorEq, g0, g3, g4, hL, e2, hd, hdd, hp9, List.length_cons, List.take_of_length_le, hdr]
    (repeat (with_reducible refine Or.inr ?_))
    exact hJ k _ ⟨(by simp [upd_app, g0, natS] <;> omega), by simp [upd_app, hcat], by simp [upd_app], by omega⟩ (by simp)
attribute [go_sem] w_sNatText
end Go.Proofs.YtjilbkkappobpaaGreatDoor
