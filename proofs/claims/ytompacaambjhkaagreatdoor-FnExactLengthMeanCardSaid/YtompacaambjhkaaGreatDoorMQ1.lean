/- A part of the proof that stands in YtompacaambjhkaaGreatDoorMQ3. -/
import Derived.Test.YtompacaambjhkaaGreatDoorM14

set_option linter.unusedVariables false
set_option linter.unusedSimpArgs false
set_option maxRecDepth 100000
namespace Go.Proofs.YtompacaambjhkaaGreatDoor
open Go

def wgt (qs : List Rat) : Bool := (qs.all fun q => !decide (q < 0)) && decide (sumL qs = 1)
def wgtR (xs : List (List UInt8)) : Option (List Rat) :=
  match serR xs with
  | some qs => if wgt qs = true then some qs else none
  | none => none
theorem wgtR_some {xs : List (List UInt8)} {qs : List Rat} (h : wgtR xs = some qs) : serR xs = some qs ∧ sumL qs = 1 := by
  unfold wgtR at h
  split at h
  · split at h
    · rename_i h1 h2
      cases h
      simp only [wgt, Bool.and_eq_true, decide_eq_true_eq] at h2
      exact ⟨h1, h2.2⟩
    · cases h
  · cases h
theorem foldl_add (qs : List Rat) : ∀ a : Rat, qs.foldl (· + ·) a = a + sumL qs := by
  induction qs with
  | nil => intro a; exact (Rat.add_zero a).symm
  | cons q qs ih =>
    intro a
    have h : sumL (q :: qs) = (0 + q) + sumL qs := by unfold sumL; rw [List.foldl_cons]; exact ih (0 + q)
    rw [List.foldl_cons, ih, h, Rat.zero_add, Rat.add_assoc]
theorem sumL_cons {q : Rat} {qs : List Rat} : sumL (q :: qs) = q + sumL qs := by
  have h := foldl_add qs (0 + q)
  rw [Rat.zero_add] at h
  unfold sumL
  rw [List.foldl_cons, Rat.zero_add]
  exact h
theorem sumL_drop {qs : List Rat} {i : Nat} {q : Rat} (h : qs[i]? = some q) : sumL (qs.drop i) - q = sumL (qs.drop (i + 1)) := by
  obtain ⟨hi, rfl⟩ := List.getElem?_eq_some_iff.1 h
  rw [List.drop_eq_getElem_cons hi, sumL_cons, Rat.add_comm, Rat.sub_eq_add_neg, Rat.add_assoc, ← Rat.sub_eq_add_neg, Rat.sub_self, Rat.add_zero]
def taiF (qs : List Rat) (i : Nat) : Rat := sumL (qs.drop (i + 1))
theorem drop_fits {qs : List Rat} (hq : ∀ q ∈ qs, fits 700 q) (hl : qs.length ≤ 13) (i : Nat) : fits 9177 (sumL (qs.drop i)) := by
  have h := sumL_fits (m := 700) (qs := qs.drop i) (fun q h => hq q (List.mem_of_mem_drop h))
  have : (qs.drop i).length ≤ 13 := by rw [List.length_drop]; omega
  exact fits_mono h (by omega)
def taiT (xs : List (List UInt8)) : Option (List (List UInt8)) :=
  match wgtR xs with
  | some qs => (mapF qs.length (taiF qs)).mapM toldR
  | none => none
theorem taiT_len {xs : List (List UInt8)} {ts : List (List UInt8)} (h : taiT xs = some ts) : ts.length ≤ 1000 := by
  unfold taiT at h
  cases hq : wgtR xs with
  | none => rw [hq] at h; cases h
  | some qs =>
    rw [hq] at h
    simp only at h
    obtain ⟨_, _, _, h4⟩ := serR_some (wgtR_some hq).1
    have := toldL_len h
    rw [mapF_len] at this; omega
theorem eq_parts {a b : Rat} : a = b ↔ (decide (a.num < 0) = decide (b.num < 0) ∧ a.num.natAbs * b.den = b.num.natAbs * a.den) := by
  have ha := a.den_pos
  have hb := b.den_pos
  constructor
  · rintro rfl; exact ⟨rfl, rfl⟩
  · rintro ⟨h1, h2⟩
    rw [Rat.eq_iff_mul_eq_mul]
    by_cases hn : a.num < 0
    · have hn' : b.num < 0 := by
        rw [decide_eq_true hn] at h1; simpa using h1.symm
      have e1 : a.num = -(a.num.natAbs : Int) := by omega
      have e2 : b.num = -(b.num.natAbs : Int) := by omega
      rw [e1, e2, Int.neg_mul, Int.neg_mul, ← Int.natCast_mul, ← Int.natCast_mul, h2]
    · have hn' : ¬ b.num < 0 := by
        rw [decide_eq_false hn] at h1; simpa using h1.symm
      have e1 : a.num = (a.num.natAbs : Int) := by omega
      have e2 : b.num = (b.num.natAbs : Int) := by omega
      rw [e1, e2, ← Int.natCast_mul, ← Int.natCast_mul, h2]
def negI : List Rat → Nat → Int
  | [], _ => -1
  | q :: qs, k => if q < 0 then (k : Int) else negI qs (k + 1)
theorem negI_ge : ∀ (qs : List Rat) (k : Nat), decide (0 ≤ negI qs k) = !(qs.all fun q => !decide (q < 0))
  | [], _ => by simp [negI]
  | q :: qs, k => by
    rw [negI]
    by_cases h : q < 0
    · simp [h]
    · rw [if_neg h, negI_ge qs (k + 1)]; simp [h]
theorem negI_at {qs : List Rat} {i : Nat} {q : Rat} (h : qs[i]? = some q) : negI (qs.drop i) i = if q < 0 then (i : Int) else negI (qs.drop (i + 1)) (i + 1) := by
  obtain ⟨hi, rfl⟩ := List.getElem?_eq_some_iff.1 h
  rw [List.drop_eq_getElem_cons hi, negI]
def wtsR (xs : List (List UInt8)) : Option (List Rat) :=
  match listR xs with
  | some qs => if wgt qs = true then some qs else none
  | none => none
def lenQ (r u : Rat) : Rat := r + u / ((1 - r) * ((2 : Int) : Rat))
def lenMT (xs : List (List UInt8)) : Option (List UInt8) :=
  match wgtR xs with
  | some qs => if facSum qs 1 qs.length < 1 then toldR (lenQ (facSum qs 1 qs.length) (facSum qs 2 qs.length)) else none
  | none => none
theorem sgn_pos {q : Rat} (h : 0 < q) : 0 < q.num.sign := by
  have h1 : 0 ≤ q.num := Rat.num_nonneg.2 (Rat.le_of_lt h)
  have h2 : q.num ≠ 0 := fun e => Rat.lt_irrefl ((Rat.num_eq_zero.1 e) ▸ h)
  rw [Int.sign_eq_one_of_pos (by omega)]; decide
theorem sgn_npos {q : Rat} (h : ¬ 0 < q) : q.num.sign ≤ 0 := by
  have h1 : q ≤ 0 := Rat.not_lt.1 h
  rcases Int.lt_trichotomy q.num 0 with h2 | h2 | h2
  · rw [Int.sign_eq_neg_one_of_neg h2]; decide
  · rw [h2]; decide
  · have h3 : 0 ≤ q := Rat.num_nonneg.1 (by omega)
    have h4 := Rat.le_antisymm h1 h3
    rw [h4] at h2
    exact absurd h2 (by decide)
theorem free_pos {r : Rat} : r < 1 ↔ 0 < 1 - r := Rat.lt_iff_sub_pos r 1
theorem two_free {r : Rat} (h : r < 1) : ((1 - r) * ((2 : Int) : Rat)).num ≠ 0 := by
  intro e
  have h1 := free_pos.1 h
  rcases Rat.mul_eq_zero.1 (Rat.num_eq_zero.1 e) with h2 | h2
  · exact Rat.lt_irrefl (h2 ▸ h1)
  · exact absurd h2 (by decide)
theorem all_take {qs : List Rat} {f : Rat → Bool} {i : Nat} {q : Rat} (h : qs[i]? = some q) : (qs.take (i + 1)).all f = ((qs.take i).all f && f q) := by
  rw [List.take_add_one, h]; simp
theorem all_bad {qs : List Rat} {f : Rat → Bool} {i : Nat} {q : Rat} (h : qs[i]? = some q) (hf : f q = false) : qs.all f = false := by
  simp only [List.all_eq_false]
  exact ⟨q, List.mem_of_getElem? h, by simp [hf]⟩
theorem w_sPositive {qs : List Rat} (hl : qs.length ≤ 1000) : CW Tryz.prog 83 [lS 700 qs] (.bool (qs.all fun q => !decide (q < 0))) := by
  refine cw (by kernel_rfl) (by simp [AV.pure, AV.pureL, natA_pure, natI_pure, natS_pure]) (by simp [AV.pure, AV.pureL, natA_pure, natI_pure, natS_pure]) ?_
  obtain ⟨L, hL⟩ : ∃ n, qs.length = n := ⟨_, rfl⟩
  rw [hL] at hl
  (refine callOk_of_wpc (W := fun _ => false) false hm' Tryz.func83 rfl (by kernel_rfl) (Nat.le_of_ble_eq_true rfl) (go_start ?_); generalize hQ : Post Tryz.prog Tryz.f83 _ _ _ _ _ = Q; simp only [stIn, matL, matA, st00])
  simp (disch := omega) only [go_sem, ↓k_cond, ↓x_idx, ↓k_block, Nat.reduceEqDiff, Nat.reduceBEq, ↓reduceIte, reduceCtorEq, hL]
  refine k_loop (fun (i : Nat) st => st.fr 0 = lS 700 qs ∧ st.fr 5 = .int .i64 L ∧ st.fr 6 = .int .i64 i ∧ i ≤ L ∧ (qs.take i).all (fun q => !decide (q < 0)) = true) (fun i => L - i) 0 ⟨(by simp [upd_app] <;> omega), (by simp [upd_app] <;> omega), (by simp [upd_app] <;> omega), by omega, rfl⟩ ?_
  rintro i ⟨fr, h, nx⟩ ⟨g0, g5, g6, hi, ha⟩ J hJ
  simp only at g0 g5 g6
  by_cases hin : i < L
  · obtain ⟨q, hq⟩ := get_some (xs := qs) (i := i) (by omega)
    have hnn := num_neg q
    by_cases hneg : q < 0
    · rw [all_bad hq (by simp [hneg])] at hQ
      rw [decide_eq_true hneg] at hnn
      simp (disch := omega) only [go_sem, ↓k_cond, ↓x_idx, ↓k_block, Nat.reduceEqDiff, Nat.reduceBEq, ↓reduceIte, reduceCtorEq, g0, g5, g6, hq, hnn]
      rw [← hQ]
      exact post_one (.inl rfl) rfl (by simp [upd_app] <;> omega) rfl
    · rw [decide_eq_false hneg] at hnn
      simp (disch := omega) only [go_sem, ↓k_cond, ↓x_idx, ↓k_block, Nat.reduceEqDiff, Nat.reduceBEq, ↓reduceIte, reduceCtorEq, g0, g5, g6, hq, hnn]
      exact hJ (i + 1) _ ⟨(by simp [upd_app, g0] <;> omega), (by simp [upd_app, g5] <;> omega), (by simp [upd_app] <;> omega), hin, by rw [all_take hq, ha]; simp [hneg]⟩ (by omega)
  · obtain rfl : i = L := by omega
    rw [List.take_of_length_le (by omega)] at ha
    rw [ha] at hQ
    simp (disch := omega) only [go_sem, ↓k_cond, ↓x_idx, ↓k_block, Nat.reduceEqDiff, Nat.reduceBEq, ↓reduceIte, reduceCtorEq, g0, g5, g6]
    rw [← hQ]
    exact post_one (.inl rfl) rfl (by simp [upd_app] <;> omega) rfl
attribute [go_sem] w_sPositive
theorem w_sTotal {m : Nat} {qs : List Rat} (hm : m ≤ 100000) (hl : qs.length ≤ 1000) : CW Tryz.prog 85 [lS m qs] (rS (64 + qs.length * (m + 1)) (sumL qs)) := by
  refine cw (by kernel_rfl) (by simp [AV.pure, AV.pureL, natA_pure, natI_pure, natS_pure]) (by simp [AV.pure, AV.pureL, natA_pure, natI_pure, natS_pure]) ?_
  obtain ⟨n, hn⟩ : ∃ n, qs.length = n := ⟨_, rfl⟩
  rw [hn] at hl ⊢
  (refine callOk_of_wpc (W := fun _ => false) false hm' Tryz.func85 rfl (by kernel_rfl) (Nat.le_of_ble_eq_true rfl) (go_start ?_); generalize hQ : Post Tryz.prog Tryz.f85 _ _ _ _ _ = Q; simp only [stIn, matL, matA, st00])
  simp (disch := omega) only [go_sem, ↓k_cond, ↓x_idx, ↓k_block, Nat.reduceEqDiff, Nat.reduceBEq, ↓reduceIte, reduceCtorEq, hn]
  (repeat (with_reducible refine Or.inr ?_))
  refine k_loop (fun (i : Nat) st => st.fr 0 = lS m qs ∧ st.fr 2 = .ptr 0 1 0 0 ∧ st.fr 3 = .ptr 1 1 0 0 ∧ st.fr 7 = .int .i64 n ∧ st.fr 8 = .int .i64 i ∧ st.h 0 = ⟨54, [.agg [.bool false, .nil, .nil]], true, false, true⟩ ∧ st.h 1 = ⟨54, [rS (64 + i * (m + 1)) (sumL (qs.take i))], true, false, true⟩ ∧ 1 < st.nx ∧ (i ≤ n)) (fun (i : Nat) => n - i) (0)
    ⟨(by simp [upd_app, sumL] <;> omega), (by simp [upd_app, sumL] <;> omega), (by simp [upd_app, sumL] <;> omega), (by simp [upd_app, sumL] <;> omega), (by simp [upd_app, sumL] <;> omega), (by simp [upd_app, sumL] <;> omega), (by simp [upd_app, sumL] <;> omega), (by simp <;> omega), by omega⟩ ?_
  rintro i ⟨fr, h, nx⟩ ⟨g0, g2, g3, g7, g8, hm0, hm1, hnx, hi⟩ J hJ
  simp only at g0 g2 g3 g7 g8 hm0 hm1 hnx
  by_cases hin : i < n
  · obtain ⟨q, hq⟩ := get_some (xs := qs) (i := i) (by omega)
    have hb : i * (m + 1) ≤ 1000 * 100001 := Nat.mul_le_mul (by omega) (by omega)
    have e : 64 + (i + 1) * (m + 1) = 64 + i * (m + 1) + m + 1 := by rw [Nat.add_mul]; omega
    have key := hJ (i + 1)
    rw [sumL_take hq, e] at key
    simp (disch := omega) only [go_sem, ↓k_cond, ↓x_idx, ↓k_block, Nat.reduceEqDiff, Nat.reduceBEq, ↓reduceIte, reduceCtorEq, g0, g2, g3, g7, g8, hm0, hm1, hq, hn]
    (repeat (with_reducible refine Or.inr ?_))
    exact key _ ⟨(by simp [upd_app, g0] <;> omega), (by simp [upd_app, g2] <;> omega), (by simp [upd_app, g3] <;> omega), (by simp [upd_app, g7] <;> omega), (by simp [upd_app] <;> omega), (by simp [upd_app, hm0] <;> omega), (by simp [upd_app] <;> omega), (by simp <;> omega), hin⟩ (by omega)
  · obtain rfl : i = n := by omega
    rw [List.take_of_length_le (by omega)] at hm1
    simp (disch := omega) only [go_sem, ↓k_cond, ↓x_idx, ↓k_block, Nat.reduceEqDiff, Nat.reduceBEq, ↓reduceIte, reduceCtorEq, g0, g2, g3, g7, g8, hm0, hm1, hn]
    (repeat (with_reducible refine Or.inr ?_))
    rw [← hQ]
    exact post_cell1 (id := 0) (x := rS (64 + i * (m + 1)) (sumL qs)) (.inl rfl) rfl o_sRat (by simp [upd_app, g2] <;> omega) (by simp [upd_app]) (by simp [upd_app]) ld_sRat (by simp [AV.pure, AV.pureL])
attribute [go_sem] w_sTotal
theorem w_sEqual {m n : Nat} {a b : Rat} (h : m + n ≤ 274877906944) : CW Tryz.prog 84 [rS m a, rS n b] (.bool (decide (a = b))) := by
  refine cw (by kernel_rfl) (by simp [AV.pure, AV.pureL, natA_pure, natI_pure, natS_pure]) (by simp [AV.pure, AV.pureL, natA_pure, natI_pure, natS_pure]) ?_
  refine callOk_told (x := rS m a) told_rS (by simp) (by simp [AV.pure, AV.pureL, natA_pure, natI_pure, natS_pure]) fun ha => ?_
  refine callOk_told (x := rS n b) told_rS (by simp) (by simp [AV.pure, AV.pureL, natA_pure, natI_pure, natS_pure]) fun hb => ?_
  have hp := eq_parts (a := a) (b := b)
  rw [rS_eq ha, rS_eq hb, ratS, ratS, qd, qd]
  have lx := len9 ha.1
  have ld := len9 ha.2
  have ly := len9 hb.1
  have le := len9 hb.2
  have lxe := len9 (mul_lt_pow ha.1 hb.2)
  have lyd := len9 (mul_lt_pow hb.1 ha.2)
  have m1 := w_sNatMul (a := a.num.natAbs) (b := b.den) (by omega) (by omega)
  have m2 := w_sNatMul (a := b.num.natAbs) (b := a.den) (by omega) (by omega)
  have hc := w_sCmp (a := a.num.natAbs * b.den) (b := b.num.natAbs * a.den) (by omega) (by omega)
  simp only [natS] at m1 m2 hc
  generalize decide (a.num < 0) = p at *
  generalize decide (b.num < 0) = q at *
  generalize a.num.natAbs * b.den = X at *
  generalize b.num.natAbs * a.den = Y at *
  by_cases hpq : p = q
  · subst hpq
    have e1 : (p == p) = true := by simp
    by_cases hXY : X = Y
    · subst hXY
      rw [decide_eq_true (hp.2 ⟨rfl, rfl⟩)]
      rw [cmpI_eq] at hc
      (refine callOk_of_wpc (W := fun _ => false) false hm' Tryz.func84 rfl (by kernel_rfl) (Nat.le_of_ble_eq_true rfl) (go_start ?_); generalize hQ : Post Tryz.prog Tryz.f84 _ _ _ _ _ = Q; simp only [stIn, matL, matA, st00, natS])
      simp (disch := omega) only [go_sem, ↓k_cond, ↓x_idx, ↓k_block, Nat.reduceEqDiff, Nat.reduceBEq, ↓reduceIte, reduceCtorEq, m1, m2, hc, e1]
      (repeat (with_reducible refine Or.inr ?_))
      rw [← hQ]
      exact post_one (.inl rfl) rfl (by simp [upd_app] <;> omega) rfl
    · rw [decide_eq_false (fun e => hXY (hp.1 e).2)]
      have hc0 : cmpI X Y ≠ 0 := cmpI_ne hXY
      generalize cmpI X Y = c at *
      (refine callOk_of_wpc (W := fun _ => false) false hm' Tryz.func84 rfl (by kernel_rfl) (Nat.le_of_ble_eq_true rfl) (go_start ?_); generalize hQ : Post Tryz.prog Tryz.f84 _ _ _ _ _ = Q; simp only [stIn, matL, matA, st00, natS])
      simp (disch := omega) only [go_sem, ↓k_cond, ↓x_idx, ↓k_block, Nat.reduceEqDiff, Nat.reduceBEq, ↓reduceIte, reduceCtorEq, m1, m2, hc, e1]
      (repeat (with_reducible refine Or.inr ?_))
      rw [← hQ]
      exact post_one (.inl rfl) rfl (by simp [upd_app] <;> omega) rfl
  · rw [decide_eq_false (fun e => hpq (hp.1 e).1)]
    have e1 : (p == q) = false := by cases p <;> cases q <;> simp_all
    (refine callOk_of_wpc (W := fun _ => false) false hm' Tryz.func84 rfl (by kernel_rfl) (Nat.le_of_ble_eq_true rfl) (go_start ?_); generalize hQ : Post Tryz.prog Tryz.f84 _ _ _ _ _ = Q; simp only [stIn, matL, matA, st00, natS])
    simp (disch := omega) only [go_sem, ↓k_cond, ↓x_idx, ↓k_block, Nat.reduceEqDiff, Nat.reduceBEq, ↓reduceIte, reduceCtorEq, e1]
    rw [← hQ]
    exact post_one (.inl rfl) rfl (by simp [upd_app] <;> omega) rfl
attribute [go_sem] w_sEqual
theorem w_sWeights {qs : List Rat} (hl : qs.length ≤ 300) : CW Tryz.prog 59 [lS 700 qs] (.bool (wgt qs)) := by
  refine cw (by kernel_rfl) (by simp [AV.pure, AV.pureL, natA_pure, natI_pure, natS_pure]) (by simp [AV.pure, AV.pureL, natA_pure, natI_pure, natS_pure]) ?_
  have h1 := w_sPositive (qs := qs) (by omega)
  have h2 := w_sTotal (m := 700) (qs := qs) (by omega) (by omega)
  have h3 := w_sEqual (m := 64 + qs.length * (700 + 1)) (n := 64) (a := sumL qs) (b := 1) (by omega)
  unfold wgt
  generalize (qs.all fun q => !decide (q < 0)) = p at *
  cases p
  · (refine callOk_of_wpc (W := fun _ => false) false hm' Tryz.func59 rfl (by kernel_rfl) (Nat.le_of_ble_eq_true rfl) (go_start ?_); generalize hQ : Post Tryz.prog Tryz.f59 _ _ _ _ _ = Q; simp only [stIn, matL, matA, st00])
    simp (disch := omega) only [go_sem, ↓k_cond, ↓x_idx, ↓k_block, Nat.reduceEqDiff, Nat.reduceBEq, ↓reduceIte, reduceCtorEq, h1]
    (repeat (with_reducible refine Or.inr ?_))
    rw [← hQ]
    exact post_one (.inl rfl) rfl (by simp [upd_app] <;> omega) rfl
  · rw [Bool.true_and]
    generalize decide (sumL qs = 1) = e at *
    (refine callOk_of_wpc (W := fun _ => false) false hm' Tryz.func59 rfl (by kernel_rfl) (Nat.le_of_ble_eq_true rfl) (go_start ?_); generalize hQ : Post Tryz.prog Tryz.f59 _ _ _ _ _ = Q; simp only [stIn, matL, matA, st00])
    simp (disch := omega) only [go_sem, ↓k_cond, ↓x_idx, ↓k_block, Nat.reduceEqDiff, Nat.reduceBEq, ↓reduceIte, reduceCtorEq, h1, h2, h3]
    (repeat (with_reducible refine Or.inr ?_))
    rw [← hQ]
    exact post_one (.inl rfl) rfl (by simp [upd_app] <;> omega) rfl
def gapS : Option (List Rat) → AV
  | some qs => .tup [lS 700 qs, .bool (wgt qs)]
  | none => .tup [.nil, .bool false]
attribute [go_sem] w_sWeights
theorem w_sGaps {xs : List (List UInt8)} (hl : xs.length < 9223372036854775808) (hs : ∀ x ∈ xs, x.length ≤ 1000000) : CW Tryz.prog 32 [.sl 9 (strA xs) [] false] (gapS (serR xs)) := by
  refine cw (by kernel_rfl) (by simp [AV.pure, AV.pureL, natA_pure, natI_pure, natS_pure]) (by unfold gapS; split <;> simp [AV.pure, AV.pureL]) ?_
  have h1 := w_l08Parse (xs := xs) hl hs
  cases hx : serR xs with
  | none =>
    rw [hx] at h1
    (refine callOk_of_wpc (W := fun _ => false) false hm' Tryz.func32 rfl (by kernel_rfl) (Nat.le_of_ble_eq_true rfl) (go_start ?_); generalize hQ : Post Tryz.prog Tryz.f32 _ _ _ _ _ = Q; simp only [stIn, matL, matA, st00])
    simp (disch := omega) only [go_sem, ↓k_cond, ↓x_idx, ↓k_block, Nat.reduceEqDiff, Nat.reduceBEq, ↓reduceIte, reduceCtorEq, h1]
    (repeat (with_reducible refine Or.inr ?_))
    rw [← hQ]
    exact post_two (.inl rfl) rfl (by simp [upd_app] <;> omega) (by simp [upd_app] <;> omega) rfl rfl
  | some qs =>
    rw [hx] at h1
    obtain ⟨_, _, _, h5⟩ := serR_some hx
    have h2 := w_sWeights (qs := qs) (by omega)
    rw [gapS]
    generalize wgt qs = e at *
    (refine callOk_of_wpc (W := fun _ => false) false hm' Tryz.func32 rfl (by kernel_rfl) (Nat.le_of_ble_eq_true rfl) (go_start ?_); generalize hQ : Post Tryz.prog Tryz.f32 _ _ _ _ _ = Q; simp only [stIn, matL, matA, st00])
    simp (disch := omega) only [go_sem, ↓k_cond, ↓x_idx, ↓k_block, Nat.reduceEqDiff, Nat.reduceBEq, ↓reduceIte, reduceCtorEq, h1, h2]
    (repeat (with_reducible refine Or.inr ?_))
    rw [← hQ]
    exact post_two (.inl rfl) rfl (by simp [upd_app] <;> omega) (by simp [upd_app] <;> omega) (by simp [AV.pure, AV.pureL, natA_pure, natI_pure, natS_pure]) rfl
attribute [go_sem] w_sGaps
theorem s_LengthMean {xs : List (List UInt8)} (hl : xs.length < 9223372036854775808) (hs : ∀ x ∈ xs, x.length ≤ 1000000) : CallOk Tryz.prog 16 [.sl 9 (strA xs) [] false] (optT (lenMT xs)) [] := by
  have h1 := w_sGaps (xs := xs) hl hs
  unfold lenMT wgtR
  cases hq : serR xs with
  | none =>
    rw [hq, gapS] at h1
    show CallOk Tryz.prog _ _ (optT none) []
    (refine callOk_of_wpcD (W := ⟨fun _ => false, fun r => if r = 5 then some [(2, 5)] else none⟩) false hm' Tryz.func16 rfl (by kernel_rfl) (Nat.le_of_ble_eq_true rfl) (go_start ?_); generalize hQ : Post Tryz.prog Tryz.f16 _ _ _ _ _ = Q; simp only [stIn, matL, matA, st00])
    simp (disch := omega) only [go_sem, ↓k_cond, ↓x_idx, ↓k_block, Nat.reduceEqDiff, Nat.reduceBEq, ↓reduceIte, reduceCtorEq, ↓k_appE, h1]
    (repeat (with_reducible refine Or.inr ?_))
    rw [← hQ]
    exact post_two (.inl rfl) rfl (by simp [upd_app] <;> omega) (by simp [upd_app] <;> omega) rfl rfl
  | some qs =>
    rw [hq, gapS] at h1
    obtain ⟨_, _, h4, h5⟩ := serR_some hq
    by_cases hw : wgt qs = true
    · simp only [if_pos hw]
      rw [hw] at h1
      have hf1 : CW Tryz.prog 34 [lS 700 qs, .int .i64 1] (rS (64 + qs.length * 765) (facSum qs 1 qs.length)) := w_l08Factors (n := 1) h5 (by omega)
      have hf2 : CW Tryz.prog 34 [lS 700 qs, .int .i64 2] (rS (64 + qs.length * 765) (facSum qs 2 qs.length)) := w_l08Factors (n := 2) h5 (by omega)
      have hb : 64 + qs.length * 765 ≤ 10009 := by omega
      unfold lenQ
      generalize 64 + qs.length * 765 = m at *
      generalize facSum qs 1 qs.length = r at *
      generalize facSum qs 2 qs.length = u at *
      have h2 := w_sLess (m := m) (n := 64) (a := r) (b := 1) (by omega)
      by_cases hr : r < 1
      · simp only [if_pos hr]
        rw [decide_eq_true hr] at h2
        have hn := two_free hr
        rw [Rat.mul_comm] at hn ⊢
        have h3 := w_sOver (m := m) (n := 64 + (64 + m + 1)) (a := u) (b := ((2 : Int) : Rat) * (1 - r)) (by omega) hn
        have h6 := w_sGive2 (m := m + (m + (64 + (64 + m + 1))) + 1) (q := r + u / (((2 : Int) : Rat) * (1 - r))) (by omega)
        cases ht : toldR (r + u / (((2 : Int) : Rat) * (1 - r)))
        all_goals
          rw [ht] at h6
          (refine callOk_of_wpcD (W := ⟨fun _ => false, fun r => if r = 5 then some [(2, 5)] else none⟩) false hm' Tryz.func16 rfl (by kernel_rfl) (Nat.le_of_ble_eq_true rfl) (go_start ?_); generalize hQ : Post Tryz.prog Tryz.f16 _ _ _ _ _ = Q; simp only [stIn, matL, matA, st00])
          simp (disch := omega) only [go_sem, ↓k_cond, ↓x_idx, ↓k_block, Nat.reduceEqDiff, Nat.reduceBEq, ↓reduceIte, reduceCtorEq, ↓k_appE, h1, hf1, hf2, h2, h3, h6]
          (repeat (with_reducible refine Or.inr ?_))
          rw [← hQ]
          exact post_two (.inl rfl) rfl (by simp [upd_app] <;> omega) (by simp [upd_app] <;> omega) rfl rfl
      · simp only [if_neg hr]
        rw [decide_eq_false hr] at h2
        show CallOk Tryz.prog _ _ (optT none) []
        (refine callOk_of_wpcD (W := ⟨fun _ => false, fun r => if r = 5 then some [(2, 5)] else none⟩) false hm' Tryz.func16 rfl (by kernel_rfl) (Nat.le_of_ble_eq_true rfl) (go_start ?_); generalize hQ : Post Tryz.prog Tryz.f16 _ _ _ _ _ = Q; simp only [stIn, matL, matA, st00])
        simp (disch := omega) only [go_sem, ↓k_cond, ↓x_idx, ↓k_block, Nat.reduceEqDiff, Nat.reduceBEq, ↓reduceIte, reduceCtorEq, ↓k_appE, h1, hf1, h2]
        (repeat (with_reducible refine Or.inr ?_))
        rw [← hQ]
        exact post_two (.inl rfl) rfl (by simp [upd_app] <;> omega) (by simp [upd_app] <;> omega) rfl rfl
    · simp only [if_neg hw]
      simp only [Bool.not_eq_true] at hw
      rw [hw] at h1
      show CallOk Tryz.prog _ _ (optT none) []
      (refine callOk_of_wpcD (W := ⟨fun _ => false, fun r => if r = 5 then some [(2, 5)] else none⟩) false hm' Tryz.func16 rfl (by kernel_rfl) (Nat.le_of_ble_eq_true rfl) (go_start ?_); generalize hQ : Post Tryz.prog Tryz.f16 _ _ _ _ _ = Q; simp only [stIn, matL, matA, st00])
      simp (disch := omega) only [go_sem, ↓k_cond, ↓x_idx, ↓k_block, Nat.reduceEqDiff, Nat.reduceBEq, ↓reduceIte, reduceCtorEq, ↓k_appE, h1]
      (repeat (with_reducible refine Or.inr ?_))
      rw [← hQ]
      exact post_two (.inl rfl) rfl (by simp [upd_app] <;> omega) (by simp [upd_app] <;> omega) rfl rfl
theorem w_indexNeg {qs : List Rat} (hl : qs.length ≤ 1000) : CW Tryz.prog 117 [lI 700 qs, .fn (.func 93) [] []] (.int .i64 (negI qs 0)) := by
  refine cw (by kernel_rfl) (by simp [AV.pure, AV.pureL, natA_pure, natI_pure, natS_pure]) (by simp [AV.pure, AV.pureL, natA_pure, natI_pure, natS_pure]) ?_
  obtain ⟨L, hL⟩ : ∃ n, qs.length = n := ⟨_, rfl⟩
  rw [hL] at hl
  (refine callOk_of_wpc (W := fun _ => false) false hm' Tryz.func117 rfl (by kernel_rfl) (Nat.le_of_ble_eq_true rfl) (go_start ?_); generalize hQ : Post Tryz.prog Tryz.f117 _ _ _ _ _ = Q; simp only [stIn, matL, matA, st00])
  simp (disch := omega) only [go_sem, ↓k_cond, ↓x_idx, ↓k_block, Nat.reduceEqDiff, Nat.reduceBEq, ↓reduceIte, reduceCtorEq, hL]
  refine k_loop (fun (i : Nat) st => st.fr 0 = lI 700 qs ∧ st.fr 1 = .fn (.func 93) [] [] ∧ st.fr 7 = .int .i64 L ∧ st.fr 8 = .int .i64 i ∧ i ≤ L ∧ negI (qs.drop i) i = negI qs 0) (fun i => L - i) 0 ⟨(by simp [upd_app] <;> omega), (by simp [upd_app] <;> omega), (by simp [upd_app] <;> omega), (by simp [upd_app] <;> omega), by omega, rfl⟩ ?_
  rintro i ⟨fr, h, nx⟩ ⟨g0, g1, g7, g8, hi, ha⟩ J hJ
  simp only at g0 g1 g7 g8
  by_cases hin : i < L
  · obtain ⟨q, hq⟩ := get_some (xs := qs) (i := i) (by omega)
    have hat := negI_at hq
    have hm := w_isMinus (m := 700) (a := q) (by omega)
    simp only [rI] at hm
    simp (disch := omega) only [go_sem, ↓k_cond, ↓x_idx, ↓k_block, Nat.reduceEqDiff, Nat.reduceBEq, ↓reduceIte, reduceCtorEq, g0, g1, g7, g8, hq]
    rw [x_callT (g := 93) (by simp [upd_app]) rfl]
    by_cases hneg : q < 0
    · rw [if_pos hneg] at hat
      rw [decide_eq_true hneg] at hm
      rw [← ha, hat] at hQ
      simp (disch := omega) only [go_sem, ↓k_cond, ↓x_idx, ↓k_block, Nat.reduceEqDiff, Nat.reduceBEq, ↓reduceIte, reduceCtorEq, g0, g1, g7, g8, hm]
      (repeat (with_reducible refine Or.inr ?_))
      rw [← hQ]
      exact post_one (.inl rfl) rfl (by simp [upd_app] <;> omega) rfl
    · rw [if_neg hneg] at hat
      rw [decide_eq_false hneg] at hm
      simp (disch := omega) only [go_sem, ↓k_cond, ↓x_idx, ↓k_block, Nat.reduceEqDiff, Nat.reduceBEq, ↓reduceIte, reduceCtorEq, g0, g1, g7, g8, hm]
      (repeat (with_reducible refine Or.inr ?_))
      exact hJ (i + 1) _ ⟨(by simp [upd_app, g0] <;> omega), (by simp [upd_app, g1] <;> omega), (by simp [upd_app, g7] <;> omega), (by simp [upd_app] <;> omega), hin, by rw [← hat, ha]⟩ (by omega)
  · obtain rfl : i = L := by omega
    rw [List.drop_eq_nil_of_le (by omega), negI] at ha
    rw [← ha] at hQ
    simp (disch := omega) only [go_sem, ↓k_cond, ↓x_idx, ↓k_block, Nat.reduceEqDiff, Nat.reduceBEq, ↓reduceIte, reduceCtorEq, g0, g1, g7, g8]
    rw [← hQ]
    exact post_one (.inl rfl) rfl (by simp [upd_app] <;> omega) rfl
attribute [go_sem] w_indexNeg
theorem w_hasNeg {qs : List Rat} (hl : qs.length ≤ 1000) : CW Tryz.prog 92 [lI 700 qs, .fn (.func 93) [] []] (.bool (!(qs.all fun q => !decide (q < 0)))) := by
  refine cw (by kernel_rfl) (by simp [AV.pure, AV.pureL, natA_pure, natI_pure, natS_pure]) (by simp [AV.pure, AV.pureL, natA_pure, natI_pure, natS_pure]) ?_
  have h1 := w_indexNeg (qs := qs) hl
  have h2 := negI_ge qs 0
  generalize negI qs 0 = z at *
  generalize (qs.all fun q => !decide (q < 0)) = p at *
  rw [← h2]
  (refine callOk_of_wpc (W := fun _ => false) false hm' Tryz.func92 rfl (by kernel_rfl) (Nat.le_of_ble_eq_true rfl) (go_start ?_); generalize hQ : Post Tryz.prog Tryz.f92 _ _ _ _ _ = Q; simp only [stIn, matL, matA, st00])
  simp (disch := omega) only [go_sem, ↓k_cond, ↓x_idx, ↓k_block, Nat.reduceEqDiff, Nat.reduceBEq, ↓reduceIte, reduceCtorEq, h1]
  (repeat (with_reducible refine Or.inr ?_))
  rw [← hQ]
  exact post_one (.inl rfl) rfl (by simp [upd_app]) rfl
attribute [go_sem] w_hasNeg
theorem w_isOne {m : Nat} {a : Rat} (h : m ≤ 200000000) : CW Tryz.prog 95 [rI m a] (.bool (decide (a = 1))) := by
  refine cw (by kernel_rfl) (by simp [AV.pure, AV.pureL, natA_pure, natI_pure, natS_pure]) (by simp [AV.pure, AV.pureL, natA_pure, natI_pure, natS_pure]) ?_
  have h1 := w_cmp (m := m) (n := 64) (a := a) (b := 1) (by omega)
  have h2 := cmpR_eq (a := a) (b := 1)
  have h3 : (((1 : Int)) : Rat) = 1 := rfl
  have h4 := w_whole (n := 1) (by omega) (by omega)
  rw [h3] at h4
  have e : (cmpR a 1 == 0) = decide (a = 1) := by
    by_cases c : a = 1
    · rw [decide_eq_true c, h2.2 c]; rfl
    · rw [decide_eq_false c]; simpa using fun e => c (h2.1 e)
  rw [← e]
  generalize cmpR a 1 = z at *
  simp only [rI] at h1
  (refine callOk_of_wpc (W := fun _ => false) false hm' Tryz.func95 rfl (by kernel_rfl) (Nat.le_of_ble_eq_true rfl) (go_start ?_); generalize hQ : Post Tryz.prog Tryz.f95 _ _ _ _ _ = Q; simp only [stIn, matL, matA, st00])
  simp (disch := omega) only [go_sem, ↓k_cond, ↓x_idx, ↓k_block, Nat.reduceEqDiff, Nat.reduceBEq, ↓reduceIte, reduceCtorEq, h4, h1]
  (repeat (with_reducible refine Or.inr ?_))
  rw [← hQ]
  exact post_one (.inl rfl) rfl (by simp [upd_app]) rfl
attribute [go_sem] w_isOne
theorem w_weightsOf {xs : List (List UInt8)} (hl : xs.length < 9223372036854775808) (hs : ∀ x ∈ xs, x.length < 9223372036854775808) : CW Tryz.prog 69 [.sl 9 (strA xs) [] false] (optLI (wtsR xs)) := by
  refine cw (by kernel_rfl) (by simp [AV.pure, AV.pureL, natA_pure, natI_pure, natS_pure]) (by simp [AV.pure, AV.pureL, natA_pure, natI_pure, natS_pure]) ?_
  have h1 := w_rats (xs := xs) hl hs
  unfold wtsR
  cases hq : listR xs with
  | none =>
    rw [hq] at h1
    (refine callOk_of_wpc (W := fun _ => false) false hm' Tryz.func69 rfl (by kernel_rfl) (Nat.le_of_ble_eq_true rfl) (go_start ?_); generalize hQ : Post Tryz.prog Tryz.f69 _ _ _ _ _ = Q; simp only [stIn, matL, matA, st00])
    simp (disch := omega) only [go_sem, ↓k_cond, ↓x_idx, ↓k_block, Nat.reduceEqDiff, Nat.reduceBEq, ↓reduceIte, reduceCtorEq, h1]
    (repeat (with_reducible refine Or.inr ?_))
    rw [← hQ]
    exact post_two (.inl rfl) rfl (by simp [upd_app] <;> omega) (by simp [upd_app] <;> omega) rfl rfl
  | some qs =>
    rw [hq] at h1
    obtain ⟨_, _, h3⟩ := list_fits hq
    have h2 := w_hasNeg (qs := qs) (by omega)
    have h4 := w_sum (m := 700) (qs := qs) (by omega) (by omega)
    have h5 := w_isOne (m := 64 + qs.length * (700 + 1)) (a := sumL qs) (by omega)
    show CallOk Tryz.prog _ _ (optLI (if wgt qs = true then some qs else none)) []
    by_cases hw : wgt qs = true
    · rw [if_pos hw]
      simp only [wgt, Bool.and_eq_true, decide_eq_true_eq] at hw
      obtain ⟨hp, c⟩ := hw
      rw [hp] at h2
      rw [decide_eq_true c] at h5
      (refine callOk_of_wpc (W := fun _ => false) false hm' Tryz.func69 rfl (by kernel_rfl) (Nat.le_of_ble_eq_true rfl) (go_start ?_); generalize hQ : Post Tryz.prog Tryz.f69 _ _ _ _ _ = Q; simp only [stIn, matL, matA, st00])
      simp (disch := omega) only [go_sem, ↓k_cond, ↓x_idx, ↓k_block, Nat.reduceEqDiff, Nat.reduceBEq, ↓reduceIte, reduceCtorEq, h1, h2, h4, h5]
      (repeat (with_reducible refine Or.inr ?_))
      rw [← hQ]
      exact post_two (.inl rfl) rfl (by simp [upd_app] <;> omega) (by simp [upd_app] <;> omega) (by simp [AV.pure, AV.pureL, natA_pure, natI_pure, natS_pure]) rfl
    · rw [if_neg hw]
      cases hp : (qs.all fun q => !decide (q < 0)) with
      | false =>
        rw [hp] at h2
        (refine callOk_of_wpc (W := fun _ => false) false hm' Tryz.func69 rfl (by kernel_rfl) (Nat.le_of_ble_eq_true rfl) (go_start ?_); generalize hQ : Post Tryz.prog Tryz.f69 _ _ _ _ _ = Q; simp only [stIn, matL, matA, st00])
        simp (disch := omega) only [go_sem, ↓k_cond, ↓x_idx, ↓k_block, Nat.reduceEqDiff, Nat.reduceBEq, ↓reduceIte, reduceCtorEq, h1, h2]
        (repeat (with_reducible refine Or.inr ?_))
        rw [← hQ]
        exact post_two (.inl rfl) rfl (by simp [upd_app] <;> omega) (by simp [upd_app] <;> omega) rfl rfl
      | true =>
        have c : sumL qs ≠ 1 := fun c => hw (by rw [wgt, hp, decide_eq_true c]; rfl)
        rw [hp] at h2
        rw [decide_eq_false c] at h5
        (refine callOk_of_wpc (W := fun _ => false) false hm' Tryz.func69 rfl (by kernel_rfl) (Nat.le_of_ble_eq_true rfl) (go_start ?_); generalize hQ : Post Tryz.prog Tryz.f69 _ _ _ _ _ = Q; simp only [stIn, matL, matA, st00])
        simp (disch := omega) only [go_sem, ↓k_cond, ↓x_idx, ↓k_block, Nat.reduceEqDiff, Nat.reduceBEq, ↓reduceIte, reduceCtorEq, h1, h2, h4, h5]
        (repeat (with_reducible refine Or.inr ?_))
        rw [← hQ]
        exact post_two (.inl rfl) rfl (by simp [upd_app] <;> omega) (by simp [upd_app] <;> omega) rfl rfl
attribute [go_sem] w_weightsOf
theorem w_IsSeries2 {xs : List (List UInt8)} (hl : xs.length < 9223372036854775808) (hs : ∀ x ∈ xs, x.length < 9223372036854775808) : CW Tryz.prog 68 [.sl 9 (strA xs) [] false] (.bool (serR xs).isSome) := by
  refine cw (by kernel_rfl) (by simp [AV.pure, AV.pureL, natA_pure, natI_pure, natS_pure]) (by simp [AV.pure, AV.pureL, natA_pure, natI_pure, natS_pure]) ?_
  have h1 := w_seriesOf (xs := xs) hl hs
  cases hq : serR xs with
  | none =>
    rw [hq] at h1
    (refine callOk_of_wpc (W := fun _ => false) false hm' Tryz.func68 rfl (by kernel_rfl) (Nat.le_of_ble_eq_true rfl) (go_start ?_); generalize hQ : Post Tryz.prog Tryz.f68 _ _ _ _ _ = Q; simp only [stIn, matL, matA, st00])
    simp (disch := omega) only [go_sem, ↓k_cond, ↓x_idx, ↓k_block, Nat.reduceEqDiff, Nat.reduceBEq, ↓reduceIte, reduceCtorEq, h1]
    (repeat (with_reducible refine Or.inr ?_))
    rw [← hQ]
    exact post_one (.inl rfl) rfl (by simp [upd_app] <;> omega) rfl
  | some qs =>
    rw [hq] at h1
    (refine callOk_of_wpc (W := fun _ => false) false hm' Tryz.func68 rfl (by kernel_rfl) (Nat.le_of_ble_eq_true rfl) (go_start ?_); generalize hQ : Post Tryz.prog Tryz.f68 _ _ _ _ _ = Q; simp only [stIn, matL, matA, st00])
    simp (disch := omega) only [go_sem, ↓k_cond, ↓x_idx, ↓k_block, Nat.reduceEqDiff, Nat.reduceBEq, ↓reduceIte, reduceCtorEq, h1]
    (repeat (with_reducible refine Or.inr ?_))
    rw [← hQ]
    exact post_one (.inl rfl) rfl (by simp [upd_app] <;> omega) rfl
theorem wts_ser {xs : List (List UInt8)} {qs : List Rat} (h : serR xs = some qs) : wtsR xs = wgtR xs := by
  unfold wgtR wtsR
  rw [h]
  unfold serR at h
  split at h
  · rw [h]
  · cases h
attribute [go_sem] w_IsSeries2
theorem w_gapsOf {xs : List (List UInt8)} (hl : xs.length < 9223372036854775808) (hs : ∀ x ∈ xs, x.length < 9223372036854775808) : CW Tryz.prog 42 [.sl 9 (strA xs) [] false] (optLI (wgtR xs)) := by
  refine cw (by kernel_rfl) (by simp [AV.pure, AV.pureL, natA_pure, natI_pure, natS_pure]) (by simp [AV.pure, AV.pureL, natA_pure, natI_pure, natS_pure]) ?_
  have h1 := w_IsSeries2 (xs := xs) hl hs
  have h2 := w_weightsOf (xs := xs) hl hs
  cases hq : serR xs with
  | none =>
    rw [hq] at h1
    have e : wgtR xs = none := by unfold wgtR; rw [hq]
    rw [e]
    (refine callOk_of_wpc (W := fun _ => false) false hm' Tryz.func42 rfl (by kernel_rfl) (Nat.le_of_ble_eq_true rfl) (go_start ?_); generalize hQ : Post Tryz.prog Tryz.f42 _ _ _ _ _ = Q; simp only [stIn, matL, matA, st00])
    simp (disch := omega) only [go_sem, ↓k_cond, ↓x_idx, ↓k_block, Nat.reduceEqDiff, Nat.reduceBEq, ↓reduceIte, reduceCtorEq, h1]
    (repeat (with_reducible refine Or.inr ?_))
    rw [← hQ]
    exact post_two (.inl rfl) rfl (by simp [upd_app] <;> omega) (by simp [upd_app] <;> omega) rfl rfl
  | some qs =>
    rw [hq] at h1
    rw [wts_ser hq] at h2
    cases hw : wgtR xs with
    | none =>
      rw [hw] at h2
      (refine callOk_of_wpc (W := fun _ => false) false hm' Tryz.func42 rfl (by kernel_rfl) (Nat.le_of_ble_eq_true rfl) (go_start ?_); generalize hQ : Post Tryz.prog Tryz.f42 _ _ _ _ _ = Q; simp only [stIn, matL, matA, st00])
      simp (disch := omega) only [go_sem, ↓k_cond, ↓x_idx, ↓k_block, Nat.reduceEqDiff, Nat.reduceBEq, ↓reduceIte, reduceCtorEq, h1, h2]
      (repeat (with_reducible refine Or.inr ?_))
      rw [← hQ]
      exact post_two (.inl rfl) rfl (by simp [upd_app] <;> omega) (by simp [upd_app] <;> omega) rfl rfl
    | some q2 =>
      rw [hw] at h2
      (refine callOk_of_wpc (W := fun _ => false) false hm' Tryz.func42 rfl (by kernel_rfl) (Nat.le_of_ble_eq_true rfl) (go_start ?_); generalize hQ : Post Tryz.prog Tryz.f42 _ _ _ _ _ = Q; simp only [stIn, matL, matA, st00])
      simp (disch := omega) only [go_sem, ↓k_cond, ↓x_idx, ↓k_block, Nat.reduceEqDiff, Nat.reduceBEq, ↓reduceIte, reduceCtorEq, h1, h2]
      (repeat (with_reducible refine Or.inr ?_))
      rw [← hQ]
      exact post_two (.inl rfl) rfl (by simp [upd_app] <;> omega) (by simp [upd_app] <;> omega) (by simp [AV.pure, AV.pureL, natA_pure, natI_pure, natS_pure]) rfl
attribute [go_sem] w_gapsOf
theorem i_LengthMean {xs : List (List UInt8)} (hl : xs.length < 9223372036854775808) (hs : ∀ x ∈ xs, x.length < 9223372036854775808) : CallOk Tryz.prog 17 [.sl 9 (strA xs) [] false] (optT (lenMT xs)) [] := by
  have h1 := w_gapsOf (xs := xs) hl hs
  unfold lenMT
  cases hq : wgtR xs with
  | none =>
    rw [hq] at h1
    (refine callOk_of_wpcD (W := ⟨fun _ => false, fun r => if r = 5 then some [(1, 3)] else none⟩) false hm' Tryz.func17 rfl (by kernel_rfl) (Nat.le_of_ble_eq_true rfl) (go_start ?_); generalize hQ : Post Tryz.prog Tryz.f17 _ _ _ _ _ = Q; simp only [stIn, matL, matA, st00])
    simp (disch := omega) only [go_sem, ↓k_cond, ↓x_idx, ↓k_block, Nat.reduceEqDiff, Nat.reduceBEq, ↓reduceIte, reduceCtorEq, ↓k_appE, h1]
    (repeat (with_reducible refine Or.inr ?_))
    rw [← hQ]
    exact post_two (.inl rfl) rfl (by simp [upd_app] <;> omega) (by simp [upd_app] <;> omega) rfl rfl
  | some qs =>
    rw [hq] at h1
    obtain ⟨_, _, _, h5⟩ := serR_some (wgtR_some hq).1
    have hf1 : CW Tryz.prog 43 [lI 700 qs, .int .i64 1] (rI (64 + qs.length * 765) (facSum qs 1 qs.length)) := w_factorMoment (n := 1) h5 (by omega)
    have hf2 : CW Tryz.prog 43 [lI 700 qs, .int .i64 2] (rI (64 + qs.length * 765) (facSum qs 2 qs.length)) := w_factorMoment (n := 2) h5 (by omega)
    have hb : 64 + qs.length * 765 ≤ 10009 := by omega
    have hw1 : CW Tryz.prog 44 [.int .i64 1] (rI 64 1) := w_whole (n := 1) (by omega) (by omega)
    show CallOk Tryz.prog _ _ (optT (if facSum qs 1 qs.length < 1 then toldR (lenQ (facSum qs 1 qs.length) (facSum qs 2 qs.length)) else none)) []
    unfold lenQ
    generalize 64 + qs.length * 765 = m at *
    generalize facSum qs 1 qs.length = r at *
    generalize facSum qs 2 qs.length = u at *
    have hsg := w_sign (m := 64 + m + 1) (a := 1 - r) (by omega)
    by_cases hr : r < 1
    · simp only [if_pos hr]
      have hsp := sgn_pos (free_pos.1 hr)
      generalize (1 - r).num.sign = s at hsg hsp
      have h3 := w_over (m := m) (n := 64 + m + 1 + 64) (a := u) (b := (1 - r) * ((2 : Int) : Rat)) (by omega) (two_free hr)
      have h6 := w_told (m := m + (m + (64 + m + 1 + 64)) + 1) (q := r + u / ((1 - r) * ((2 : Int) : Rat))) (by omega)
      cases ht : toldR (r + u / ((1 - r) * ((2 : Int) : Rat)))
      all_goals
        rw [ht] at h6
        (refine callOk_of_wpcD (W := ⟨fun _ => false, fun r => if r = 5 then some [(1, 3)] else none⟩) false hm' Tryz.func17 rfl (by kernel_rfl) (Nat.le_of_ble_eq_true rfl) (go_start ?_); generalize hQ : Post Tryz.prog Tryz.f17 _ _ _ _ _ = Q; simp only [stIn, matL, matA, st00])
        simp (disch := omega) only [go_sem, ↓k_cond, ↓x_idx, ↓k_block, Nat.reduceEqDiff, Nat.reduceBEq, ↓reduceIte, reduceCtorEq, ↓k_appE, h1, hf1, hf2, hw1, hsg, h3, h6]
        (repeat (with_reducible refine Or.inr ?_))
        rw [← hQ]
        exact post_two (.inl rfl) rfl (by simp [upd_app] <;> omega) (by simp [upd_app] <;> omega) rfl rfl
    · simp only [if_neg hr]
      have hsp := sgn_npos (fun h => hr (free_pos.2 h))
      generalize (1 - r).num.sign = s at hsg hsp
      show CallOk Tryz.prog _ _ (optT none) []
      (refine callOk_of_wpcD (W := ⟨fun _ => false, fun r => if r = 5 then some [(1, 3)] else none⟩) false hm' Tryz.func17 rfl (by kernel_rfl) (Nat.le_of_ble_eq_true rfl) (go_start ?_); generalize hQ : Post Tryz.prog Tryz.f17 _ _ _ _ _ = Q; simp only [stIn, matL, matA, st00])
      simp (disch := omega) only [go_sem, ↓k_cond, ↓x_idx, ↓k_block, Nat.reduceEqDiff, Nat.reduceBEq, ↓reduceIte, reduceCtorEq, ↓k_appE, h1, hf1, hw1, hsg]
      (repeat (with_reducible refine Or.inr ?_))
      rw [← hQ]
      exact post_two (.inl rfl) rfl (by simp [upd_app] <;> omega) (by simp [upd_app] <;> omega) rfl rfl
set_option maxHeartbeats 1000000 in
theorem law_LengthMean (xs : List (List UInt8)) (hn_xs : xs.length < 4611686018427387904) (hs_xs : ∀ x ∈ xs, x.length < 4611686018427387904) : CallOk Tryz.prog 5 [.sl 9 (strA xs) [] false] (.bool true) [] := by
  have hsz_xs := cw (by kernel_rfl) (by simp [AV.pure, AV.pureL, natA_pure, natI_pure, natS_pure]) (by simp [AV.pure, AV.pureL, natA_pure, natI_pure, natS_pure]) (l_sz xs 1000000 (by omega) (by omega) hn_xs hs_xs)
  by_cases hneg_xs : szS xs 1000000 < 0
  · (refine callOk_of_wpc (W := fun g => g == 8) false hm' Tryz.func5 rfl (by kernel_rfl) (Nat.le_of_ble_eq_true rfl) (go_start ?_); generalize hQ : Post Tryz.prog Tryz.f5 _ _ _ _ _ = Q; simp only [stIn, matL, matA, st00])
    simp (disch := omega) only [go_sem, ↓k_cond, ↓x_idx, ↓k_block, Nat.reduceEqDiff, Nat.reduceBEq, ↓reduceIte, reduceCtorEq, hsz_xs]
    (repeat (with_reducible refine Or.inr ?_))
    rw [← hQ]
    exact post_one (.inl rfl) rfl (by simp [upd_app] <;> omega) rfl
  obtain ⟨b1_xs, b2_xs, b3_xs⟩ := szS_bd (by omega) (show 0 ≤ szS xs 1000000 by omega)
  have hl_xs : xs.length ≤ 1000000 := by omega
  have he_xs : ∀ x ∈ xs, x.length ≤ 1000000 := fun x hx => by have := b2_xs x hx; omega
  obtain ⟨z_xs, hz_xs⟩ : ∃ z, szS xs 1000000 = z := ⟨_, rfl⟩
  rw [hz_xs] at hsz_xs hneg_xs b3_xs
  have hT_xs := l_to xs false (.inl rfl) hl_xs
  obtain ⟨sp_xs, hsp_xs⟩ : ∃ sp, spareL xs.length = sp := ⟨_, rfl⟩
  have hr_xs : sp_xs.length = roomB xs.length := by rw [← hsp_xs, spareL]; simp
  have hrl_xs := room_le xs.length
  rw [hsp_xs] at hT_xs
  have hI := i_LengthMean (xs := xs) (by omega) (fun x hx => by have := he_xs x hx; omega)
  have hS := s_LengthMean (xs := xs) (by omega) (fun x hx => by have := he_xs x hx; omega)
  generalize (lenMT xs) = o at *
  cases o
  all_goals
    (refine callOk_of_wpc (W := fun g => g == 8) false hm' Tryz.func5 rfl (by kernel_rfl) (Nat.le_of_ble_eq_true rfl) (go_start ?_); generalize hQ : Post Tryz.prog Tryz.f5 _ _ _ _ _ = Q; simp only [stIn, matL, matA, st00])
    simp (disch := omega) only [go_sem, ↓k_cond, ↓x_idx, ↓k_block, Nat.reduceEqDiff, Nat.reduceBEq, ↓reduceIte, reduceCtorEq, hsz_xs]
    (repeat (with_reducible refine Or.inr ?_))
    refine callW_O hT_xs cl_to (by simp [AV.pure, AV.pureL, natA_pure, natI_pure, natS_pure]) (strA_pure _) (strA_pure _) rfl ?_
    simp only [strA_length, strA_append]
    simp (disch := omega) only [go_sem, ↓k_cond, ↓x_idx, ↓k_block, Nat.reduceEqDiff, Nat.reduceBEq, ↓reduceIte, reduceCtorEq]
    refine callW_S hS (by kernel_rfl) (snap_more (sp := sp_xs) (by simp [upd_app]) rfl rfl rfl) rfl rfl ?_
    simp (disch := omega) only [go_sem, ↓k_cond, ↓x_idx, ↓k_block, Nat.reduceEqDiff, Nat.reduceBEq, ↓reduceIte, reduceCtorEq]
    refine callW_O hT_xs cl_to (by simp [AV.pure, AV.pureL, natA_pure, natI_pure, natS_pure]) (strA_pure _) (strA_pure _) rfl ?_
    simp only [strA_length, strA_append]
    simp (disch := omega) only [go_sem, ↓k_cond, ↓x_idx, ↓k_block, Nat.reduceEqDiff, Nat.reduceBEq, ↓reduceIte, reduceCtorEq]
    refine callW_S hI (by kernel_rfl) (snap_more (sp := sp_xs) (by simp [upd_app]) rfl rfl rfl) rfl rfl ?_
    simp (disch := omega) only [go_sem, ↓k_cond, ↓x_idx, ↓k_block, Nat.reduceEqDiff, Nat.reduceBEq, ↓reduceIte, reduceCtorEq]
    refine callW_O hT_xs cl_to (by simp [AV.pure, AV.pureL, natA_pure, natI_pure, natS_pure]) (strA_pure _) (strA_pure _) rfl ?_
    simp only [strA_length, strA_append]
    simp (disch := omega) only [go_sem, ↓k_cond, ↓x_idx, ↓k_block, Nat.reduceEqDiff, Nat.reduceBEq, ↓reduceIte, reduceCtorEq]
    refine callW_I (i_intact (xs := xs) (sp := sp_xs) (by simp [upd_app]) (by simp [upd_app]) rfl (by rw [← hr_xs]) hr_xs hl_xs) (by kernel_rfl) (.inr ⟨rfl, rfl⟩) ?_
    simp (disch := omega) only [go_sem, ↓k_cond, ↓x_idx, ↓k_block, Nat.reduceEqDiff, Nat.reduceBEq, ↓reduceIte, reduceCtorEq]
    by_cases hnil : xs = []
    · subst hnil
      refine callW_P l_toNil cl_to (by simp [AV.pure, AV.pureL, natA_pure, natI_pure, natS_pure]) rfl ?_
      simp (disch := omega) only [go_sem, ↓k_cond, ↓x_idx, ↓k_block, Nat.reduceEqDiff, Nat.reduceBEq, ↓reduceIte, reduceCtorEq]
      refine callW_P (hI.args (SubL.cons sub_nil .nil)) (by kernel_rfl) rfl rfl ?_
      simp (disch := omega) only [go_sem, ↓k_cond, ↓x_idx, ↓k_block, Nat.reduceEqDiff, Nat.reduceBEq, ↓reduceIte, reduceCtorEq]
      rw [← hQ]
      exact post_one (.inl rfl) rfl (by simp [upd_app] <;> omega) rfl
    · have hT2 := l_to xs true (.inr hnil) hl_xs
      rw [hsp_xs] at hT2
      refine callW_O hT2 cl_to (by simp [AV.pure, AV.pureL, natA_pure, natI_pure, natS_pure]) (strA_pure _) (strA_pure _) rfl ?_
      simp only [strA_length, strA_append]
      simp (disch := omega) only [go_sem, ↓k_cond, ↓x_idx, ↓k_block, Nat.reduceEqDiff, Nat.reduceBEq, ↓reduceIte, reduceCtorEq]
      refine callW_S hI (by kernel_rfl) (snap_more (sp := sp_xs) (by simp [upd_app]) rfl rfl rfl) rfl rfl ?_
      simp (disch := omega) only [go_sem, ↓k_cond, ↓x_idx, ↓k_block, Nat.reduceEqDiff, Nat.reduceBEq, ↓reduceIte, reduceCtorEq]
      rw [← hQ]
      exact post_one (.inl rfl) rfl (by simp [upd_app] <;> omega) rfl
theorem lawOk_LengthMean : LawOk Tryz.prog 5 [.cell (.sl 9 .str)] := by
  intro xs h
  obtain ⟨x_xs, _, rfl, k_xs, rfl⟩ := h
  obtain ⟨xs, rfl, h1_xs, h2_xs⟩ := isC_strs k_xs
  exact law_LengthMean xs h1_xs h2_xs
end Go.Proofs.YtompacaambjhkaaGreatDoor
