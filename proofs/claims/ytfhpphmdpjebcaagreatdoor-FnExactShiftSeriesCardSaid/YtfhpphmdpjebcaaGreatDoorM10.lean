/- Part 10 of the ground of the proofs of this seat. -/
import Derived.Test.YtfhpphmdpjebcaaGreatDoorM9

set_option linter.unusedVariables false
set_option linter.unusedSimpArgs false
set_option maxRecDepth 100000
namespace Go.Proofs.YtfhpphmdpjebcaaGreatDoor
open Go

theorem sub_step {B i x y c e c' A D V : Nat} (hv : A + B ^ i * c = D + V) (h : x + B * c' = e + y + c) : A + B ^ i * x + B ^ (i + 1) * c' = D + B ^ i * e + (V + B ^ i * y) := by
  have := congrArg (B ^ i * ·) h
  simp only [Nat.mul_add, ← Nat.mul_assoc, ← Nat.pow_add_one] at this
  omega
theorem val_take_getD {B : Nat} {xs : List Nat} {i : Nat} : val B (xs.take (i + 1)) = val B (xs.take i) + B ^ i * xs.getD i 0 := by
  by_cases h : i < xs.length
  · rw [val_take_succ (getD_some h)]
  · rw [getD_none h, List.take_of_length_le (by omega), List.take_of_length_le (by omega)]; simp
theorem w_natSub {a b : Nat} (ha : (enc B32 a).length ≤ 1099511627776) (hab : b ≤ a) : CW Tryz.prog 118 [natI a, natI b] (natI (a - b)) := by
  refine cw (by kernel_rfl) (by simp [AV.pure, AV.pureL, natA_pure, natI_pure, natS_pure]) (by simp [AV.pure, AV.pureL, natA_pure, natI_pure, natS_pure]) ?_
  (refine callOk_of_wpc (W := fun g => g == 132) false hm' Tryz.func118 rfl (by kernel_rfl) (Nat.le_of_ble_eq_true rfl) (go_start ?_); generalize hQ : Post Tryz.prog Tryz.f118 _ _ _ _ _ = Q; simp only [stIn, matL, matA, st00, natI])
  have hB : B32 = 4294967296 := rfl
  obtain ⟨n, hn⟩ : ∃ n, (enc B32 a).length = n := ⟨_, rfl⟩
  obtain ⟨l, hl⟩ : ∃ l, (enc B32 b).length = l := ⟨_, rfl⟩
  have hln : l ≤ n := by rw [← hl, ← hn]; exact enc_len_mono B32_gt hab
  rw [hn] at ha
  simp (disch := omega) only [go_sem, ↓k_cond, ↓x_idx, ↓k_block, Nat.reduceEqDiff, Nat.reduceBEq, ↓reduceIte, reduceCtorEq, hn, reach]
  refine k_loop (fun (⟨i, c, ds⟩ : Nat × Nat × List Nat) st => st.fr 0 = natI a ∧ st.fr 1 = natI b ∧ st.fr 5 = .ref 0 n 0 n ∧ st.fr 13 = .int .i64 n ∧ st.fr 14 = .int .i64 i ∧ st.fr 6 = .int .i64 c ∧ st.h 0 = ⟨111, natA .u32 ds, true, true, true⟩ ∧ 0 < st.nx ∧ (ds.length = n) ∧ (i ≤ n) ∧ (c ≤ 1) ∧ (∀ d ∈ ds, d < B32) ∧ (val B32 ((enc B32 a).take i) + B32 ^ i * c = val B32 (ds.take i) + val B32 ((enc B32 b).take i))) (fun (⟨i, c, ds⟩ : Nat × Nat × List Nat) => n - i) (0, 0, List.replicate n 0)
    ⟨(by simp [upd_app, natI] <;> omega), (by simp [upd_app, natI] <;> omega), (by simp [upd_app, natI] <;> omega), (by simp [upd_app, natI] <;> omega), (by simp [upd_app, natI] <;> omega), (by simp [upd_app, natI] <;> omega), (by simp [upd_app, natI] <;> omega), (by simp <;> omega), by simp, by simp, by simp, zeros_lt B32_gt, by simp [val]⟩ ?_
  rintro ⟨i, c, ds⟩ ⟨fr, h, nx⟩ ⟨g0, g1, g5, g13, g14, g6, hm0, hnx, hlen, hi, hc, hq, hv⟩ J hJ
  simp only at g0 g1 g5 g13 g14 g6 hm0 hnx
  simp only [natI] at g0 g1
  have hdl : (natA .u32 ds).length = n := by rw [natA_length, hlen]
  by_cases hin : i < n
  · obtain ⟨x, hx⟩ := get_some (xs := enc B32 a) (i := i) (by omega)
    have hxB : x < B32 := enc_lt B32_gt a x (List.mem_of_getElem? hx)
    obtain ⟨y, hy⟩ : ∃ y, (enc B32 b).getD i 0 = y := ⟨_, rfl⟩
    have hyB : y < B32 := by rw [← hy]; exact getD_lt B32_gt (enc_lt B32_gt b) i
    have hvx := val_take_succ (B := B32) hx
    have hvy := val_take_getD (B := B32) (xs := enc B32 b) (i := i)
    obtain ⟨z, hz⟩ := get_some (xs := ds) (i := i) (by omega)
    rw [hy] at hvy
    have key : ∀ (c' e : Nat) (st : St), c' ≤ 1 → e < B32 → x + B32 * c' = e + y + c → st.fr 0 = natI a → st.fr 1 = natI b → st.fr 5 = .ref 0 n 0 n → st.fr 13 = .int .i64 n → st.fr 14 = .int .i64 ((i + 1 : Nat) : Int) → st.fr 6 = .int .i64 c' →
        st.h 0 = ⟨111, natA .u32 (ds.set i e), true, true, true⟩ → 0 < st.nx → J st := by
      intro c' e st h1 h2 h3 k0 k1 k5 k13 k14 k6 kh kn
      refine hJ (i + 1, c', ds.set i e) st ⟨k0, k1, k5, k13, k14, k6, kh, kn, by simp [hlen], hin, h1, set_lt hq h2, ?_⟩ (by simp only; omega)
      try simp only
      rw [hvx, hvy, val_take_set (by omega)]
      exact sub_step hv h3
    clear hJ hv hvx hvy hq
    rw [hB] at hxB hyB
    by_cases hil : i < l
    · have hyy : (enc B32 b)[i]? = some y := by rw [← hy]; exact getD_some (by omega)
      by_cases hneg : x < c + y
      · simp (disch := omega) only [go_sem, ↓k_cond, ↓x_idx, ↓k_block, Nat.reduceEqDiff, Nat.reduceBEq, ↓reduceIte, reduceCtorEq, g0, g1, g5, g13, g14, g6, hm0, hdl, hx, hyy, hz, hl, hn, wrapU32neg]
        refine key 1 (x + 4294967296 - c - y) _ (by omega) (by omega) (by omega) (by simp [upd_app, g0, natI] <;> omega) (by simp [upd_app, g1, natI] <;> omega) (by simp [upd_app, g5] <;> omega) (by simp [upd_app, g13] <;> omega) (by simp [upd_app] <;> omega) (by simp [upd_app] <;> omega) ?_ (by simp <;> omega)
        have e : ((x : Int) - c - y + 4294967296) = ((x + 4294967296 - c - y : Nat) : Int) := by omega
        simp [upd_app, e, natA_put]
      · simp (disch := omega) only [go_sem, ↓k_cond, ↓x_idx, ↓k_block, Nat.reduceEqDiff, Nat.reduceBEq, ↓reduceIte, reduceCtorEq, g0, g1, g5, g13, g14, g6, hm0, hdl, hx, hyy, hz, hl, hn]
        refine key 0 (x - c - y) _ (by omega) (by omega) (by omega) (by simp [upd_app, g0, natI] <;> omega) (by simp [upd_app, g1, natI] <;> omega) (by simp [upd_app, g5] <;> omega) (by simp [upd_app, g13] <;> omega) (by simp [upd_app] <;> omega) (by simp [upd_app] <;> omega) ?_ (by simp <;> omega)
        have e : ((x : Int) - c - y) = ((x - c - y : Nat) : Int) := by omega
        simp [upd_app, e, natA_put]
    · obtain rfl : y = 0 := by rw [← hy]; exact getD_none (by omega)
      by_cases hneg : x < c
      · simp (disch := omega) only [go_sem, ↓k_cond, ↓x_idx, ↓k_block, Nat.reduceEqDiff, Nat.reduceBEq, ↓reduceIte, reduceCtorEq, g0, g1, g5, g13, g14, g6, hm0, hdl, hx, hz, hl, hn, wrapU32neg]
        refine key 1 (x + 4294967296 - c) _ (by omega) (by omega) (by omega) (by simp [upd_app, g0, natI] <;> omega) (by simp [upd_app, g1, natI] <;> omega) (by simp [upd_app, g5] <;> omega) (by simp [upd_app, g13] <;> omega) (by simp [upd_app] <;> omega) (by simp [upd_app] <;> omega) ?_ (by simp <;> omega)
        have e : ((x : Int) - c + 4294967296) = ((x + 4294967296 - c : Nat) : Int) := by omega
        simp [upd_app, e, natA_put]
      · simp (disch := omega) only [go_sem, ↓k_cond, ↓x_idx, ↓k_block, Nat.reduceEqDiff, Nat.reduceBEq, ↓reduceIte, reduceCtorEq, g0, g1, g5, g13, g14, g6, hm0, hdl, hx, hz, hl, hn]
        refine key 0 (x - c) _ (by omega) (by omega) (by omega) (by simp [upd_app, g0, natI] <;> omega) (by simp [upd_app, g1, natI] <;> omega) (by simp [upd_app, g5] <;> omega) (by simp [upd_app, g13] <;> omega) (by simp [upd_app] <;> omega) (by simp [upd_app] <;> omega) ?_ (by simp <;> omega)
        have e : ((x : Int) - c) = ((x - c : Nat) : Int) := by omega
        simp [upd_app, e, natA_put]
  · obtain rfl : i = n := by omega
    rw [List.take_of_length_le (by omega), List.take_of_length_le (by omega), List.take_of_length_le (by omega), val_enc B32_gt, val_enc B32_gt] at hv
    have hvl := val_lt (B := B32) hq
    rw [hlen] at hvl
    have hval : val B32 ds = a - b := by
      rcases Nat.eq_zero_or_pos c with rfl | hc0
      · simp at hv; omega
      · obtain rfl : c = 1 := by omega
        omega
    clear hJ
    simp (disch := omega) only [go_sem, ↓k_cond, ↓x_idx, ↓k_block, Nat.reduceEqDiff, Nat.reduceBEq, ↓reduceIte, reduceCtorEq, g0, g1, g5, g13, g14, hm0, hdl]
    refine callW_F (i_Trim (ds.take i) (by simp; omega)) ci_trim (snapL_one (id := 0) (st := ⟨_, _, _⟩) (by exact hm0) (by simp [hlen]) (Nat.le_refl _)) (by simp [hm0]) (by simp [AV.pure, AV.pureL, natA_pure, natI_pure, natS_pure]) (by simp [AV.pure, AV.pureL, natA_pure, natI_pure, natS_pure]) (by simp) ?_
    simp (disch := omega) only [go_sem, ↓k_cond, ↓x_idx, ↓k_block, Nat.reduceEqDiff, Nat.reduceBEq, ↓reduceIte, reduceCtorEq]
    have e3 : trimZ (ds.take i) = enc B32 (a - b) := by
      rw [List.take_of_length_le (by simp [hlen]), trimZ_enc B32_gt hq, hval]
    rw [e3, ← hQ]
    exact post_one (.inl rfl) rfl (by simp only [upd_app, ↓reduceIte, natI]) (by simp)
attribute [go_sem] w_natSub
theorem w_natOf {n : Int} (h0 : 0 ≤ n) (h1 : n < 18446744073709551616) : CW Tryz.prog 98 [.int .u64 n] (natI n.toNat) :=
  cw (by kernel_rfl) (by simp [AV.pure, AV.pureL, natA_pure, natI_pure, natS_pure]) (by simp [AV.pure, AV.pureL, natA_pure, natI_pure, natS_pure]) (by have := i_natOf n.toNat (by omega); rwa [Int.toNat_of_nonneg h0] at this)
attribute [go_sem] w_natOf
theorem w_natAdd {a b : Nat} (ha : (enc B32 a).length ≤ 1099511627776) (hb : (enc B32 b).length ≤ 1099511627776) : CW Tryz.prog 117 [natI a, natI b] (natI (a + b)) := cw (by kernel_rfl) (by simp [AV.pure, AV.pureL, natA_pure, natI_pure, natS_pure]) (by simp [AV.pure, AV.pureL, natA_pure, natI_pure, natS_pure]) (i_addTo a b ha hb)
attribute [go_sem] w_natAdd
theorem w_natMul {a b : Nat} (ha : (enc B32 a).length ≤ 1099511627776) (hb : (enc B32 b).length ≤ 1099511627776) : CW Tryz.prog 97 [natI a, natI b] (natI (a * b)) := cw (by kernel_rfl) (by simp [AV.pure, AV.pureL, natA_pure, natI_pure, natS_pure]) (by simp [AV.pure, AV.pureL, natA_pure, natI_pure, natS_pure]) (i_mul a b ha hb)
attribute [go_sem] w_natMul
theorem w_natCmp {a b : Nat} (ha : (enc B32 a).length < 9223372036854775808) (hb : (enc B32 b).length < 9223372036854775808) : CW Tryz.prog 114 [natI a, natI b] (.int .i64 (cmpI a b)) := cw (by kernel_rfl) (by simp [AV.pure, AV.pureL, natA_pure, natI_pure, natS_pure]) (by simp [AV.pure, AV.pureL, natA_pure, natI_pure, natS_pure]) (i_Cmp a b ha hb)
attribute [go_sem] w_natCmp
theorem w_natDiv {a b : Nat} (ha : (enc B32 a).length ≤ 1099511627775) (hb0 : b ≠ 0) (hb : (enc B32 b).length ≤ 1099511627775) : CW Tryz.prog 131 [natI a, natI b] (.tup [natI (a / b), natI (a % b)]) := cw (by kernel_rfl) (by simp [AV.pure, AV.pureL, natA_pure, natI_pure, natS_pure]) (by simp [AV.pure, AV.pureL, natA_pure, natI_pure, natS_pure]) (i_div a b ha hb0 hb)
attribute [go_sem] w_natDiv
theorem w_natGcd {a b : Nat} (ha : (enc B32 a).length ≤ 1099511627775) (hb : (enc B32 b).length ≤ 1099511627775) : CW Tryz.prog 115 [natI a, natI b] (natI (Nat.gcd a b)) := cw (by kernel_rfl) (by simp [AV.pure, AV.pureL, natA_pure, natI_pure, natS_pure]) (by simp [AV.pure, AV.pureL, natA_pure, natI_pure, natS_pure]) (i_gcd a b ha hb)
attribute [go_sem] w_natGcd
theorem w_sDigit {xs : List Nat} {i : Nat} (h : xs.length < 9223372036854775808) : CW Tryz.prog 135 [.sl 2 (natA .i64 xs) [] false, .int .i64 i] (.int .i64 (xs.getD i 0 : Nat)) := cw (by kernel_rfl) (by simp [AV.pure, AV.pureL, natA_pure, natI_pure, natS_pure]) (by simp [AV.pure, AV.pureL, natA_pure, natI_pure, natS_pure]) (s_Digit hm' xs i h)
attribute [go_sem] w_sDigit
theorem addS_step {B i x y c e c' A D V : Nat} (hv : A + V = D + B ^ i * c) (h : e + B * c' = x + y + c) : (A + B ^ i * x) + (V + B ^ i * y) = (D + B ^ i * e) + B ^ (i + 1) * c' := by
  have := congrArg (B ^ i * ·) h
  simp only [Nat.mul_add, ← Nat.mul_assoc, ← Nat.pow_add_one] at this
  omega
theorem val_snoc {B : Nat} {xs : List Nat} {e : Nat} : val B (xs ++ [e]) = val B xs + B ^ xs.length * e := by rw [val_append]; simp [val]
theorem enc_of {B : Nat} (hB : 1 < B) {ds : List Nat} {v : Nat} (hq : ∀ d ∈ ds, d < B) (hv : val B ds = v) (hl : ds.length ≤ (enc B v).length) : ds = enc B v := by
  have h1 := trimZ_enc hB hq
  rw [hv] at h1
  have h2 := trimZ_pre ds
  rw [h1, List.take_of_length_le hl] at h2
  exact h2
attribute [go_sem] w_sDigit
theorem w_sNatAdd {a b : Nat} (ha : (enc B9 a).length ≤ 1099511627776) (hb : (enc B9 b).length ≤ 1099511627776) : CW Tryz.prog 108 [natS a, natS b] (natS (a + b)) := by
  refine cw (by kernel_rfl) (by simp [AV.pure, AV.pureL, natA_pure, natI_pure, natS_pure]) (by simp [AV.pure, AV.pureL, natA_pure, natI_pure, natS_pure]) ?_
  (refine callOk_of_wpc (W := fun _ => false) false hm' Tryz.func108 rfl (by kernel_rfl) (Nat.le_of_ble_eq_true rfl) (go_start ?_); generalize hQ : Post Tryz.prog Tryz.f108 _ _ _ _ _ = Q; simp only [stIn, matL, matA, st00, natS])
  have hB : B9 = 1000000000 := rfl
  obtain ⟨n, hn⟩ : ∃ n, (enc B9 a).length = n := ⟨_, rfl⟩
  obtain ⟨l, hl⟩ : ∃ l, (enc B9 b).length = l := ⟨_, rfl⟩
  have hna : n ≤ (enc B9 (a + b)).length := by rw [← hn]; exact enc_len_mono B9_gt (by omega)
  have hlb : l ≤ (enc B9 (a + b)).length := by rw [← hl]; exact enc_len_mono B9_gt (by omega)
  rw [hn] at ha; rw [hl] at hb
  simp (disch := omega) only [go_sem, ↓k_cond, ↓x_idx, ↓k_block, Nat.reduceEqDiff, Nat.reduceBEq, ↓reduceIte, reduceCtorEq]
  refine k_loop (fun (⟨i, c, ds⟩ : Nat × Nat × List Nat) st => st.fr 0 = natS a ∧ st.fr 1 = natS b ∧ st.fr 5 = .ref 0 i 0 i ∧ st.fr 6 = .int .i64 c ∧ st.fr 7 = .int .i64 i ∧ (∃ ex, st.h 0 = ⟨2, natA .i64 ds, ex, true, true⟩) ∧ 0 < st.nx ∧ (ds.length = i) ∧ (i + c ≤ max n l + 1) ∧ (c ≤ 1) ∧ (∀ d ∈ ds, d < B9) ∧ (i ≤ (enc B9 (a + b)).length) ∧ (val B9 ((enc B9 a).take i) + val B9 ((enc B9 b).take i) = val B9 ds + B9 ^ i * c)) (fun (⟨i, c, ds⟩ : Nat × Nat × List Nat) => 2 * (max n l - i) + c) (0, 0, [])
    ⟨(by simp [upd_app, natS, natA] <;> omega), (by simp [upd_app, natS, natA] <;> omega), (by simp [upd_app, natS, natA] <;> omega), (by simp [upd_app, natS, natA] <;> omega), (by simp [upd_app, natS, natA] <;> omega), ⟨true, (by simp [upd_app, natS, natA] <;> omega)⟩, (by simp <;> omega), rfl, by simp, by simp, by simp, by simp, by simp [val]⟩ ?_
  rintro ⟨i, c, ds⟩ ⟨fr, h, nx⟩ ⟨g0, g1, g5, g6, g7, ⟨ex0, hm0⟩, hnx, hlen, him, hc, hq, hk, hv⟩ J hJ
  simp only at g0 g1 g5 g6 g7 hm0 hnx
  simp only [natS] at g0 g1
  have hdl : (natA .i64 ds).length = i := by rw [natA_length, hlen]
  by_cases hgo : i < n ∨ i < l ∨ 0 < c
  · obtain ⟨x, hx⟩ : ∃ x, (enc B9 a).getD i 0 = x := ⟨_, rfl⟩
    obtain ⟨y, hy⟩ : ∃ y, (enc B9 b).getD i 0 = y := ⟨_, rfl⟩
    have hxB : x < B9 := by rw [← hx]; exact getD_lt B9_gt (enc_lt B9_gt a) i
    have hyB : y < B9 := by rw [← hy]; exact getD_lt B9_gt (enc_lt B9_gt b) i
    have hx0 : n ≤ i → x = 0 := fun h => by rw [← hx]; exact getD_none (by omega)
    have hy0 : l ≤ i → y = 0 := fun h => by rw [← hy]; exact getD_none (by omega)
    have hvx := val_take_getD (B := B9) (xs := enc B9 a) (i := i)
    have hvy := val_take_getD (B := B9) (xs := enc B9 b) (i := i)
    rw [hx] at hvx; rw [hy] at hvy
    obtain ⟨s1, s2, s3⟩ := add_step B9_gt hc hxB hyB
    have hk' : i + 1 ≤ (enc B9 (a + b)).length := by
      rcases hgo with h | h | h
      · omega
      · omega
      · by_cases h2 : i < n ∨ i < l
        · omega
        · rw [List.take_of_length_le (by omega), List.take_of_length_le (by omega), val_enc B9_gt, val_enc B9_gt] at hv
          obtain rfl : c = 1 := by omega
          exact enc_len_ge B9_gt (by omega)
    have key : ∀ st : St, st.fr 0 = natS a → st.fr 1 = natS b → st.fr 5 = .ref 0 (i + 1) 0 (i + 1) → st.fr 6 = .int .i64 (((x + y + c) / 1000000000 : Nat) : Int) → st.fr 7 = .int .i64 ((i + 1 : Nat) : Int) →
        (∃ ex, st.h 0 = ⟨2, natA .i64 (ds ++ [(x + y + c) % 1000000000]), ex, true, true⟩) → 0 < st.nx → J st := by
      intro st k0 k1 k5 k6 k7 kh kn
      rw [show c + x + y = x + y + c by omega] at s1 s2 s3
      have hlast : ¬ i < max n l → (x + y + c) / B9 = 0 := fun h => by rw [hx0 (by omega), hy0 (by omega), Nat.div_eq_of_lt (by simp only [hB]; omega)]
      refine hJ (i + 1, (x + y + c) / B9, ds ++ [(x + y + c) % B9]) st ⟨k0, k1, k5, k6, k7, kh, kn, by simp [hlen], ?_, s1, ?_, hk', ?_⟩ ?_
      · have : (x + y + c) / B9 ≤ 1 := s1
        by_cases h2 : i < max n l
        · omega
        · rw [hlast h2]; omega
      · intro d hd
        rcases List.mem_append.1 hd with h | h
        · exact hq d h
        · rw [List.mem_singleton.1 h]; exact s2
      · try simp only
        rw [hvx, hvy, val_snoc, hlen]
        exact addS_step hv s3
      · try simp only
        have : (x + y + c) / B9 ≤ 1 := s1
        by_cases h2 : i < max n l
        · omega
        · rw [hlast h2]; omega
    clear hJ hv hvx hvy hq hk hk' s1 s2 s3 hx0 hy0
    rw [hB] at hxB hyB
    have n1 : (0 = nx) = False := by simp; omega
    have n2 : (nx = 0) = False := by simp; omega
    rcases (by omega : i < n ∨ (¬ i < n ∧ i < l) ∨ (¬ i < n ∧ ¬ i < l ∧ 0 < c)) with h1 | h1 | h1
    all_goals
      simp (disch := omega) only [go_sem, ↓k_cond, ↓x_idx, ↓k_block, Nat.reduceEqDiff, Nat.reduceBEq, ↓reduceIte, reduceCtorEq, g0, g1, g5, g6, g7, hm0, hdl, hx, hy, hl, hn, reach, n1, n2]
      (repeat (with_reducible refine Or.inr ?_))
      exact key _ (by simp [upd_app, g0, natS] <;> omega) (by simp [upd_app, g1, natS] <;> omega) (by simp [upd_app] <;> omega) (by simp [upd_app] <;> omega) (by simp [upd_app] <;> omega) ⟨false, by simp [upd_app, n1, n2, hm0, natA]⟩ (by simp <;> omega)
  · rw [List.take_of_length_le (by omega), List.take_of_length_le (by omega), val_enc B9_gt, val_enc B9_gt] at hv
    obtain rfl : c = 0 := by omega
    have hde := enc_of B9_gt hq (show val B9 ds = a + b by simp at hv; omega) (by omega)
    clear hJ
    simp (disch := omega) only [go_sem, ↓k_cond, ↓x_idx, ↓k_block, Nat.reduceEqDiff, Nat.reduceBEq, ↓reduceIte, reduceCtorEq, g0, g1, g5, g6, g7, hl, hn]
    rw [← hQ]
    exact post_frozen (off := 0) (len := i) (n := i) (id := 0) (.inl rfl) rfl (by simp [upd_app] <;> omega) (by simp [hm0]) (by simp [hm0, natA_length, hlen]) (by simp [hm0]) (by omega) (Nat.zero_le _) (by simp only [hm0, List.drop_zero, natA_take]; rw [List.take_of_length_le (by omega), hde]) (natA_pure _ _)
attribute [go_sem] w_sNatAdd
theorem w_sNatLess {a b : Nat} (ha : (enc B9 a).length ≤ 1099511627776) (hab : b ≤ a) : CW Tryz.prog 109 [natS a, natS b] (natS (a - b)) := by
  refine cw (by kernel_rfl) (by simp [AV.pure, AV.pureL, natA_pure, natI_pure, natS_pure]) (by simp [AV.pure, AV.pureL, natA_pure, natI_pure, natS_pure]) ?_
  (refine callOk_of_wpc (W := fun g => g == 130) false hm' Tryz.func109 rfl (by kernel_rfl) (Nat.le_of_ble_eq_true rfl) (go_start ?_); generalize hQ : Post Tryz.prog Tryz.f109 _ _ _ _ _ = Q; simp only [stIn, matL, matA, st00, natS])
  have hB : B9 = 1000000000 := rfl
  obtain ⟨n, hn⟩ : ∃ n, (enc B9 a).length = n := ⟨_, rfl⟩
  obtain ⟨l, hl⟩ : ∃ l, (enc B9 b).length = l := ⟨_, rfl⟩
  have hln : l ≤ n := by rw [← hl, ← hn]; exact enc_len_mono B9_gt hab
  rw [hn] at ha
  simp (disch := omega) only [go_sem, ↓k_cond, ↓x_idx, ↓k_block, Nat.reduceEqDiff, Nat.reduceBEq, ↓reduceIte, reduceCtorEq, hn]
  refine k_loop (fun (⟨i, c, ds⟩ : Nat × Nat × List Nat) st => st.fr 0 = natS a ∧ st.fr 1 = natS b ∧ st.fr 5 = .ref 0 i 0 i ∧ st.fr 11 = .int .i64 n ∧ st.fr 12 = .int .i64 i ∧ st.fr 6 = .int .i64 c ∧ (∃ ex, st.h 0 = ⟨2, natA .i64 ds, ex, true, true⟩) ∧ 0 < st.nx ∧ (ds.length = i) ∧ (i ≤ n) ∧ (c ≤ 1) ∧ (∀ d ∈ ds, d < B9) ∧ (val B9 ((enc B9 a).take i) + B9 ^ i * c = val B9 ds + val B9 ((enc B9 b).take i))) (fun (⟨i, c, ds⟩ : Nat × Nat × List Nat) => n - i) (0, 0, [])
    ⟨(by simp [upd_app, natS, natA] <;> omega), (by simp [upd_app, natS, natA] <;> omega), (by simp [upd_app, natS, natA] <;> omega), (by simp [upd_app, natS, natA] <;> omega), (by simp [upd_app, natS, natA] <;> omega), (by simp [upd_app, natS, natA] <;> omega), ⟨true, (by simp [upd_app, natS, natA] <;> omega)⟩, (by simp <;> omega), rfl, by simp, by simp, by simp, by simp [val]⟩ ?_
  rintro ⟨i, c, ds⟩ ⟨fr, h, nx⟩ ⟨g0, g1, g5, g11, g12, g6, ⟨ex0, hm0⟩, hnx, hlen, hi, hc, hq, hv⟩ J hJ
  simp only at g0 g1 g5 g11 g12 g6 hm0 hnx
  simp only [natS] at g0 g1
  have hdl : (natA .i64 ds).length = i := by rw [natA_length, hlen]
  have n1 : (0 = nx) = False := by simp; omega
  have n2 : (nx = 0) = False := by simp; omega
  by_cases hin : i < n
  · obtain ⟨x, hx⟩ := get_some (xs := enc B9 a) (i := i) (by omega)
    have hxB : x < B9 := enc_lt B9_gt a x (List.mem_of_getElem? hx)
    obtain ⟨y, hy⟩ : ∃ y, (enc B9 b).getD i 0 = y := ⟨_, rfl⟩
    have hyB : y < B9 := by rw [← hy]; exact getD_lt B9_gt (enc_lt B9_gt b) i
    have hvx := val_take_succ (B := B9) hx
    have hvy := val_take_getD (B := B9) (xs := enc B9 b) (i := i)
    rw [hy] at hvy
    have key : ∀ (c' e : Nat) (st : St), c' ≤ 1 → e < B9 → x + B9 * c' = e + y + c → st.fr 0 = natS a → st.fr 1 = natS b → st.fr 5 = .ref 0 (i + 1) 0 (i + 1) → st.fr 11 = .int .i64 n → st.fr 12 = .int .i64 ((i + 1 : Nat) : Int) → st.fr 6 = .int .i64 c' →
        (∃ ex, st.h 0 = ⟨2, natA .i64 (ds ++ [e]), ex, true, true⟩) → 0 < st.nx → J st := by
      intro c' e st h1 h2 h3 k0 k1 k5 k11 k12 k6 kh kn
      refine hJ (i + 1, c', ds ++ [e]) st ⟨k0, k1, k5, k11, k12, k6, kh, kn, by simp [hlen], hin, h1, ?_, ?_⟩ (by simp only; omega)
      · intro d hd
        rcases List.mem_append.1 hd with h | h
        · exact hq d h
        · rw [List.mem_singleton.1 h]; exact h2
      · try simp only
        rw [hvx, hvy, val_snoc, hlen]
        exact sub_step hv h3
    clear hJ hv hvx hvy hq
    rw [hB] at hxB hyB
    simp only [hB] at key
    by_cases hneg : x < y + c
    · simp (disch := omega) only [go_sem, ↓k_cond, ↓x_idx, ↓k_block, Nat.reduceEqDiff, Nat.reduceBEq, ↓reduceIte, reduceCtorEq, g0, g1, g5, g11, g12, g6, hm0, hdl, hx, hy, hl, hn, reach, n1, n2]
      (repeat (with_reducible refine Or.inr ?_))
      have e : ((x : Int) - y - c + 1000000000) = ((x + 1000000000 - y - c : Nat) : Int) := by omega
      exact key 1 (x + 1000000000 - y - c) _ (by omega) (by omega) (by omega) (by simp [upd_app, g0, natS] <;> omega) (by simp [upd_app, g1, natS] <;> omega) (by simp [upd_app] <;> omega) (by simp [upd_app, g11] <;> omega) (by simp [upd_app] <;> omega) (by simp [upd_app] <;> omega) ⟨false, by simp [upd_app, n1, n2, hm0, natA, e]⟩ (by simp <;> omega)
    · simp (disch := omega) only [go_sem, ↓k_cond, ↓x_idx, ↓k_block, Nat.reduceEqDiff, Nat.reduceBEq, ↓reduceIte, reduceCtorEq, g0, g1, g5, g11, g12, g6, hm0, hdl, hx, hy, hl, hn, reach, n1, n2]
      (repeat (with_reducible refine Or.inr ?_))
      have e : ((x : Int) - y - c) = ((x - y - c : Nat) : Int) := by omega
      exact key 0 (x - y - c) _ (by omega) (by omega) (by omega) (by simp [upd_app, g0, natS] <;> omega) (by simp [upd_app, g1, natS] <;> omega) (by simp [upd_app] <;> omega) (by simp [upd_app, g11] <;> omega) (by simp [upd_app] <;> omega) (by simp [upd_app] <;> omega) ⟨false, by simp [upd_app, n1, n2, hm0, natA, e]⟩ (by simp <;> omega)
  · obtain rfl : i = n := by omega
    rw [List.take_of_length_le (by omega), List.take_of_length_le (by omega), val_enc B9_gt, val_enc B9_gt] at hv
    have hvl := val_lt (B := B9) hq
    rw [hlen] at hvl
    have hval : val B9 ds = a - b := by
      rcases Nat.eq_zero_or_pos c with rfl | hc0
      · simp at hv; omega
      · obtain rfl : c = 1 := by omega
        omega
    clear hJ
    simp (disch := omega) only [go_sem, ↓k_cond, ↓x_idx, ↓k_block, Nat.reduceEqDiff, Nat.reduceBEq, ↓reduceIte, reduceCtorEq, g0, g1, g5, g11, g12, hm0, hdl]
    refine callW_F (s_Trim hm' (ds.take i) (by simp; omega)) c_Trim (snapL_oneX (id := 0) (st := ⟨_, _, _⟩) (by exact hm0) (by simp [hlen]) (Nat.le_refl _)) (by simp [hm0]) (by simp [AV.pure, AV.pureL, natA_pure, natI_pure, natS_pure]) (by simp [AV.pure, AV.pureL, natA_pure, natI_pure, natS_pure]) (by simp) ?_
    simp (disch := omega) only [go_sem, ↓k_cond, ↓x_idx, ↓k_block, Nat.reduceEqDiff, Nat.reduceBEq, ↓reduceIte, reduceCtorEq]
    have e3 : trimZ (ds.take i) = enc B9 (a - b) := by
      rw [List.take_of_length_le (by simp [hlen]), trimZ_enc B9_gt hq, hval]
    rw [e3, ← hQ]
    exact post_one (.inl rfl) rfl (by simp only [upd_app, ↓reduceIte, natS]) (natS_pure _)
attribute [go_sem] w_sNatLess
theorem w_sNatMul {a b : Nat} (ha : (enc B9 a).length ≤ 1099511627776) (hb : (enc B9 b).length ≤ 1099511627776) : CW Tryz.prog 92 [natS a, natS b] (natS (a * b)) := by
  refine cw (by kernel_rfl) (by simp [AV.pure, AV.pureL, natA_pure, natI_pure, natS_pure]) (by simp [AV.pure, AV.pureL, natA_pure, natI_pure, natS_pure]) ?_
  (refine callOk_of_wpc (W := fun g => g == 130) false hm' Tryz.func92 rfl (by kernel_rfl) (Nat.le_of_ble_eq_true rfl) (go_start ?_); generalize hQ : Post Tryz.prog Tryz.f92 _ _ _ _ _ = Q; simp only [stIn, matL, matA, st00, natS])
  have hB : B9 = 1000000000 := rfl
  obtain ⟨n, hn⟩ : ∃ n, (enc B9 a).length = n := ⟨_, rfl⟩
  obtain ⟨l, hl⟩ : ∃ l, (enc B9 b).length = l := ⟨_, rfl⟩
  rw [hn] at ha; rw [hl] at hb
  have hblt : b < B9 ^ l := by rw [← hl]; exact enc_len_pow B9_gt
  simp (disch := omega) only [go_sem, ↓k_cond, ↓x_idx, ↓k_block, Nat.reduceEqDiff, Nat.reduceBEq, ↓reduceIte, reduceCtorEq, hn, hl, reach]
  refine k_loop (fun (⟨i, ds⟩ : Nat × List Nat) st => st.fr 0 = natS a ∧ st.fr 1 = natS b ∧ st.fr 5 = .ref 0 (n + l) 0 (n + l) ∧ st.fr 17 = .int .i64 n ∧ st.fr 18 = .int .i64 i ∧ st.h 0 = ⟨2, natA .i64 ds, true, true, true⟩ ∧ 0 < st.nx ∧ (ds.length = n + l) ∧ (i ≤ n) ∧ (∀ d ∈ ds, d < B9) ∧ (val B9 ds = val B9 ((enc B9 a).take i) * b)) (fun (⟨i, ds⟩ : Nat × List Nat) => n - i) (0, List.replicate (n + l) 0)
    ⟨(by simp [upd_app, natS] <;> omega), (by simp [upd_app, natS] <;> omega), (by simp [upd_app, natS] <;> omega), (by simp [upd_app, natS] <;> omega), (by simp [upd_app, natS] <;> omega), (by simp [upd_app, natS] <;> omega), (by simp <;> omega), by simp, by simp, zeros_lt B9_gt, by simp [val_zeros, val]⟩ ?_
  rintro ⟨i, ds⟩ ⟨fr, h, nx⟩ ⟨g0, g1, g5, g17, g18, hm0, hnx, hlen, hi, hq, hv⟩ J hJ
  simp only at g0 g1 g5 g17 g18 hm0 hnx
  simp only [natS] at g0 g1
  have hdl : (natA .i64 ds).length = n + l := by rw [natA_length, hlen]
  by_cases hin : i < n
  · obtain ⟨u, hu⟩ := get_some (xs := enc B9 a) (i := i) (by omega)
    have huB : u < B9 := enc_lt B9_gt a u (List.mem_of_getElem? hu)
    have hvu := val_take_succ (B := B9) hu
    have hlow : val B9 ds < B9 ^ (i + l) := by
      rw [hv]
      refine mul_pos_lt ?_ hblt
      have := val_lt (B := B9) (xs := (enc B9 a).take i) (fun d hd => enc_lt B9_gt a d (List.mem_of_mem_take hd))
      rwa [show ((enc B9 a).take i).length = i by simp; omega] at this
    simp (disch := omega) only [go_sem, ↓k_cond, ↓x_idx, ↓k_block, Nat.reduceEqDiff, Nat.reduceBEq, ↓reduceIte, reduceCtorEq, g0, g1, g5, g17, g18, hm0, hdl, hu, hl]
    refine k_loop (fun (⟨k, c, es⟩ : Nat × Nat × List Nat) st => st.fr 0 = natS a ∧ st.fr 1 = natS b ∧ st.fr 5 = .ref 0 (n + l) 0 (n + l) ∧ st.fr 17 = .int .i64 n ∧ st.fr 18 = .int .i64 i ∧ st.fr 6 = .int .i64 i ∧ st.fr 7 = .int .i64 c ∧ st.fr 22 = .int .i64 l ∧ st.fr 23 = .int .i64 k ∧ st.h 0 = ⟨2, natA .i64 es, true, true, true⟩ ∧ 0 < st.nx ∧ (es.length = n + l) ∧ (k ≤ l) ∧ (c < B9) ∧ (∀ q ∈ es, q < B9) ∧ (val B9 es + B9 ^ (i + k) * c = val B9 ds + B9 ^ i * u * val B9 ((enc B9 b).take k)) ∧ (es.drop (i + k) = ds.drop (i + k))) (fun (⟨k, c, es⟩ : Nat × Nat × List Nat) => l - k) (0, 0, ds)
      ⟨(by simp [upd_app, natS, g0, g1, g5, g17, g18, hm0] <;> omega), (by simp [upd_app, natS, g0, g1, g5, g17, g18, hm0] <;> omega), (by simp [upd_app, natS, g0, g1, g5, g17, g18, hm0] <;> omega), (by simp [upd_app, natS, g0, g1, g5, g17, g18, hm0] <;> omega), (by simp [upd_app, natS, g0, g1, g5, g17, g18, hm0] <;> omega), (by simp [upd_app, natS, g0, g1, g5, g17, g18, hm0] <;> omega), (by simp [upd_app, natS, g0, g1, g5, g17, g18, hm0] <;> omega), (by simp [upd_app, natS, g0, g1, g5, g17, g18, hm0] <;> omega), (by simp [upd_app, natS, g0, g1, g5, g17, g18, hm0] <;> omega), (by simp [upd_app, natS, g0, g1, g5, g17, g18, hm0] <;> omega), (by simp <;> omega), hlen, by simp, by simp [B9], hq, by simp [val], rfl⟩ ?_
    rintro ⟨k, c, es⟩ ⟨fr, h, nx⟩ ⟨g0, g1, g5, g17, g18, g6, g7, g22, g23, hm0, hnx, hel, hk, hc, hp, hw, hd⟩ J2 hJ2
    simp only at g0 g1 g5 g17 g18 g6 g7 g22 g23 hm0 hnx
    simp only [natS] at g0 g1
    have hdl : (natA .i64 es).length = n + l := by rw [natA_length, hel]
    by_cases hkl : k < l
    · obtain ⟨y, hy⟩ := get_some (xs := enc B9 b) (i := k) (by omega)
      obtain ⟨o, ho⟩ := get_some (xs := es) (i := i + k) (by omega)
      have hyB : y < B9 := enc_lt B9_gt b y (List.mem_of_getElem? hy)
      have hoB : o < B9 := hp o (List.mem_of_getElem? ho)
      obtain ⟨s1, s2, s3⟩ := mul_step hc huB hyB hoB
      have hset := fun v => val_set (B := B9) (v := v) ho
      have hvy := val_take_succ (B := B9) hy
      have key : ∀ st : St, st.fr 0 = natS a → st.fr 1 = natS b → st.fr 5 = .ref 0 (n + l) 0 (n + l) → st.fr 17 = .int .i64 n → st.fr 18 = .int .i64 i → st.fr 6 = .int .i64 i → 
          st.fr 7 = .int .i64 (((o + u * y + c) / 1000000000 : Nat) : Int) → st.fr 22 = .int .i64 l → st.fr 23 = .int .i64 ((k + 1 : Nat) : Int) → 
          st.h 0 = ⟨2, natA .i64 (es.set (i + k) ((o + u * y + c) % 1000000000)), true, true, true⟩ → 0 < st.nx → J2 st := by
        intro st k0 k1 k5 k17 k18 k6 k7 k22 k23 kh kn
        rw [show c + (u * y + o) = o + u * y + c by omega] at s1 s2
        refine hJ2 (k + 1, (o + u * y + c) / B9, es.set (i + k) ((o + u * y + c) % B9)) st ⟨k0, k1, k5, k17, k18, k6, k7, k22, k23, kh, kn, by simp [hel], hkl, s1, set_lt hp s2, ?_, ?_⟩ (by simp only; omega)
        · have h1 := hset ((o + u * y + c) % B9)
          have h2 : B9 ^ (i + k) * ((o + u * y + c) % B9 + B9 * ((o + u * y + c) / B9)) = B9 ^ (i + k) * (o + u * y + c) := by rw [Nat.mod_add_div]
          have h3 : B9 ^ i * u * (B9 ^ k * y) = B9 ^ (i + k) * (u * y) := by rw [Nat.pow_add, Nat.mul_assoc, Nat.mul_assoc]; congr 1; rw [Nat.mul_left_comm]
          rw [Nat.mul_add, Nat.mul_add, Nat.mul_add, ← Nat.mul_assoc] at h2
          simp only [hvy]
          rw [Nat.mul_add, h3, ← Nat.add_assoc i k 1, Nat.pow_succ]; omega
        · try simp only
          rw [List.drop_set_of_lt (by omega)]
          have := congrArg (List.drop 1) hd
          rw [List.drop_drop, List.drop_drop] at this
          exact this
      clear hJ hJ2 hw hd hset s1 s2 hvy hv hlow hvu
      rw [hB] at huB hyB hoB hc s3
      obtain ⟨z, hz⟩ : ∃ z, u * y = z := ⟨_, rfl⟩
      have hz3 : z ≤ 999999998000000001 := by
        have : u * y ≤ 999999999 * 999999999 := Nat.mul_le_mul (by omega) (by omega)
        omega
      rw [hz] at key
      simp (disch := omega) only [go_sem, ↓k_cond, ↓x_idx, ↓k_block, Nat.reduceEqDiff, Nat.reduceBEq, ↓reduceIte, reduceCtorEq, g0, g1, g5, g17, g18, g6, g7, g22, g23, hm0, hdl, hel, hu, hy, ho, hz]
      exact key _ (by simp [upd_app, g0, natS] <;> omega) (by simp [upd_app, g1, natS] <;> omega) (by simp [upd_app, g5] <;> omega) (by simp [upd_app, g17] <;> omega) (by simp [upd_app, g18] <;> omega) (by simp [upd_app, g6] <;> omega) (by simp [upd_app] <;> omega) (by simp [upd_app, g22] <;> omega) (by simp [upd_app] <;> omega) (by simp [upd_app] <;> omega) (by simp <;> omega)
    · obtain rfl : k = l := by omega
      have eb : (enc B9 b).take k = enc B9 b := List.take_of_length_le (by omega)
      rw [eb, val_enc B9_gt] at hw
      obtain ⟨o, ho⟩ := get_some (xs := es) (i := i + k) (by omega)
      have ho' : ds[i + k]? = some o := by
        have := congrArg (·[0]?) hd
        simp only [List.getElem?_drop, Nat.add_zero] at this; rw [← this]; exact ho
      obtain rfl : o = 0 := zero_at B9_gt hq ho' hlow
      have hset := val_set (B := B9) (v := c) ho
      have key : ∀ st : St, st.fr 0 = natS a → st.fr 1 = natS b → st.fr 5 = .ref 0 (n + k) 0 (n + k) → st.fr 17 = .int .i64 n → st.fr 18 = .int .i64 ((i + 1 : Nat) : Int) → 
          st.h 0 = ⟨2, natA .i64 (es.set (i + k) c), true, true, true⟩ → 0 < st.nx → J st := by
        intro st k0 k1 k5 k17 k18 kh kn
        refine hJ (i + 1, es.set (i + k) c) st ⟨k0, k1, k5, k17, k18, kh, kn, by simp [hel], hin, set_lt hp hc, ?_⟩ (by simp only; omega)
        simp only [Nat.mul_zero, Nat.add_zero] at hset
        try simp only
        rw [hset, hw, hvu, hv, Nat.add_mul]
      clear hJ hJ2 hw hd hset hv hlow hvu
      rw [hB] at hc
      simp (disch := omega) only [go_sem, ↓k_cond, ↓x_idx, ↓k_block, Nat.reduceEqDiff, Nat.reduceBEq, ↓reduceIte, reduceCtorEq, g0, g1, g5, g17, g18, g6, g7, g22, g23, hm0, hdl, hel, ho, hl]
      exact key _ (by simp [upd_app, g0, natS] <;> omega) (by simp [upd_app, g1, natS] <;> omega) (by simp [upd_app, g5] <;> omega) (by simp [upd_app, g17] <;> omega) (by simp [upd_app] <;> omega) (by simp [upd_app] <;> omega) (by simp <;> omega)
  · obtain rfl : i = n := by omega
    have ex : (enc B9 a).take i = enc B9 a := List.take_of_length_le (by omega)
    rw [ex, val_enc B9_gt] at hv
    clear hJ
    simp (disch := omega) only [go_sem, ↓k_cond, ↓x_idx, ↓k_block, Nat.reduceEqDiff, Nat.reduceBEq, ↓reduceIte, reduceCtorEq, g0, g1, g5, g17, g18, hm0, hdl]
    refine callW_F (s_Trim hm' (ds.take (i + l)) (by simp; omega)) c_Trim (snapL_oneX (id := 0) (st := ⟨_, _, _⟩) (by exact hm0) (by simp [hlen]) (Nat.le_refl _)) (by simp [hm0]) (by simp [AV.pure, AV.pureL, natA_pure, natI_pure, natS_pure]) (by simp [AV.pure, AV.pureL, natA_pure, natI_pure, natS_pure]) (by simp) ?_
    simp (disch := omega) only [go_sem, ↓k_cond, ↓x_idx, ↓k_block, Nat.reduceEqDiff, Nat.reduceBEq, ↓reduceIte, reduceCtorEq]
    have e3 : trimZ (ds.take (i + l)) = enc B9 (a * b) := by
      rw [List.take_of_length_le (by simp [hlen]), trimZ_enc B9_gt hq, hv]
    rw [e3, ← hQ]
    exact post_one (.inl rfl) rfl (by simp only [upd_app, ↓reduceIte, natS]) (natS_pure _)
attribute [go_sem] w_sNatMul
theorem w_sNat {n : Int} (h0 : 0 ≤ n) (h1 : n < 9223372036854775808) : CW Tryz.prog 93 [.int .i64 n] (natS n.toNat) :=
  cw (by kernel_rfl) (by simp [AV.pure, AV.pureL, natA_pure, natI_pure, natS_pure]) (by simp [AV.pure, AV.pureL, natA_pure, natI_pure, natS_pure]) (by have := s_Nat hm' n.toNat (by omega); rwa [Int.toNat_of_nonneg h0] at this)
attribute [go_sem] w_sNat
theorem w_sCmp {a b : Nat} (ha : (enc B9 a).length < 9223372036854775808) (hb : (enc B9 b).length < 9223372036854775808) : CW Tryz.prog 106 [natS a, natS b] (.int .i64 (cmpI a b)) := cw (by kernel_rfl) (by simp [AV.pure, AV.pureL, natA_pure, natI_pure, natS_pure]) (by simp [AV.pure, AV.pureL, natA_pure, natI_pure, natS_pure]) (s_Cmp hm' a b ha hb)
attribute [go_sem] w_sCmp
theorem w_sDiv {a b : Nat} (ha : (enc B9 a).length ≤ 1099511627775) (hb0 : b ≠ 0) (hb : (enc B9 b).length ≤ 1099511627775) : CW Tryz.prog 129 [natS a, natS b] (.tup [natS (a / b), natS (a % b)]) := cw (by kernel_rfl) (by simp [AV.pure, AV.pureL, natA_pure, natI_pure, natS_pure]) (by simp [AV.pure, AV.pureL, natA_pure, natI_pure, natS_pure]) (s_NatDiv a b ha hb0 hb)
attribute [go_sem] w_sDiv
theorem w_sGcd {a b : Nat} (ha : (enc B9 a).length ≤ 1099511627775) (hb : (enc B9 b).length ≤ 1099511627775) : CW Tryz.prog 107 [natS a, natS b] (natS (Nat.gcd a b)) := cw (by kernel_rfl) (by simp [AV.pure, AV.pureL, natA_pure, natI_pure, natS_pure]) (by simp [AV.pure, AV.pureL, natA_pure, natI_pure, natS_pure]) (s_Gcd a b ha hb)
attribute [go_sem] w_sGcd
theorem self_mkRat (a : Rat) : a = mkRat (sg (qd a).1 (qd a).2.1) (qd a).2.2 := by rw [qd_sg]; exact (Rat.mkRat_self a).symm
theorem sg_mul (p : Bool) (x e : Nat) : sg p (x * e) = sg p x * e := by cases p <;> simp [sg, Int.neg_mul]
theorem scale_mkRat {p : Bool} {x d e : Nat} (he : e ≠ 0) : mkRat (sg p x) d = mkRat (sg p (x * e)) (d * e) := by rw [sg_mul]; exact (Rat.mkRat_mul_right he).symm
theorem add_common {a b : Rat} {p q : Int} {c : Nat} (ha : a = mkRat p c) (hb : b = mkRat q c) : a + b = mkRat (p + q) c := by
  rw [ha, hb, Rat.mkRat_eq_div, Rat.mkRat_eq_div, Rat.mkRat_eq_div, Rat.intCast_add, Rat.div_def, Rat.div_def, Rat.div_def, Rat.add_mul]
theorem sg_same {p : Bool} {x y : Nat} : sg p x + sg p y = sg p (x + y) := by cases p <;> simp [sg] <;> omega
theorem sg_ge {p q : Bool} {x y : Nat} (h : p ≠ q) (hxy : y ≤ x) : sg p x + sg q y = sg p (x - y) := by cases p <;> cases q <;> simp_all [sg] <;> omega
theorem sg_lt {p q : Bool} {x y : Nat} (h : p ≠ q) (hxy : x ≤ y) : sg p x + sg q y = sg q (y - x) := by cases p <;> cases q <;> simp_all [sg] <;> omega
theorem qd_int (n : Int) : qd (n : Rat) = (decide (n < 0), n.natAbs, 1) := Prod.ext (decide_eq_decide.2 Iff.rfl) rfl
theorem fits_int {n : Int} {k : Nat} (h : n.natAbs < 2 ^ k) (hk : 0 < k) : fits k (n : Rat) := ⟨by simpa using h, by simpa using Nat.one_lt_two_pow (by omega)⟩
theorem fits_pos {n : Nat} {q : Rat} (h : fits n q) : 0 < n := by
  have := q.den_pos
  rcases Nat.eq_zero_or_pos n with rfl | h0
  · have := h.2; simp at this; omega
  · exact h0
theorem den_ne (a : Rat) : a.den ≠ 0 := a.den_nz
theorem num_neg (a : Rat) : decide (a.num < 0) = decide (a < 0) := decide_eq_decide.2 (by rw [← Int.not_le, Rat.num_nonneg, Rat.not_le])
theorem num_zero {a : Rat} : a.num = 0 ↔ a = 0 := Rat.num_eq_zero
theorem post_cell1 {P : Program} {fn : Func} {n0 : Nat} {fl : Bool} {t : Tmp} {T id : Nat} {x r : AV} {st : St} {e : Ex} (he : e = .ret ∨ e = .normal) (hr : fn.results.toList = [.cell t T]) (hok : okT P T = true) (hv : st.fr t = .ptr id 1 0 0) (hlv : (st.h id).lv = true) (hx : (st.h id).xs = [x])
    (hl : ldA P T x 0 = some r) (hp : r.pure = true) : Post P fn n0 fl false r [] e st := by
  refine ⟨by rcases he with rfl | rfl <;> trivial, r, by rw [hr]; simp [resV, resL, resA, hv, hok, loadA, hlv, hx, hl], [], ?_, .inl rfl⟩
  simp only [Bool.false_eq_true, if_false]
  exact ⟨snapA_pure hp, by simp⟩
theorem natI0 : natI 0 = .sl 111 [] [] false := by simp [natI, enc_zero, natA]
theorem enc_one {B : Nat} (hB : 1 < B) : enc B 1 = [1] := by rw [enc_pos hB (by omega), Nat.mod_eq_of_lt hB, Nat.div_eq_of_lt hB, enc_zero]
theorem one_len {B g x : Nat} (hB : 1 < B) (hl : (enc B g).length = 1) (hx : (enc B g)[0]? = some x) : x = g := by
  obtain ⟨y, hy⟩ := List.length_eq_one_iff.1 hl
  have := val_enc hB g
  rw [hy] at this hx
  simp [val] at this hx
  omega
theorem w_natOf1 : CW Tryz.prog 98 [.int .u64 1] (natI 1) := w_natOf (n := 1) (by omega) (by omega)
theorem enc_div_len {B m g : Nat} (hB : 1 < B) : (enc B (m / g)).length ≤ (enc B m).length := enc_len_mono hB (Nat.div_le_self _ _)
theorem cmpI_ne {m n : Nat} (h : m ≠ n) : cmpI m n ≠ 0 := by
  rcases Nat.lt_or_gt_of_ne h with h | h
  · rw [cmpI_lt h]; decide
  · rw [cmpI_gt h]; decide
theorem cmpI_ge {m n : Nat} (h : n ≤ m) : 0 ≤ cmpI m n := by
  rcases Nat.eq_or_lt_of_le h with rfl | h
  · rw [cmpI_eq]; decide
  · rw [cmpI_gt h]; decide
def lowQ (b : Bool) (m n : Nat) : Qd := (b && decide (m ≠ 0), m / Nat.gcd m n, n / Nat.gcd m n)
theorem low_mkRat {b : Bool} {m n : Nat} (h : n ≠ 0) : qd (mkRat (sg b m) n) = lowQ b m n := qd_mkRat b m n h
theorem add_low {a b : Rat} {p q : Bool} {X Y C : Nat} (hC : C ≠ 0) (ha : a = mkRat (sg p X) C) (hb : b = mkRat (sg q Y) C) :
    (p = q → qd (a + b) = lowQ p (X + Y) C) ∧ (p ≠ q → Y ≤ X → qd (a + b) = lowQ p (X - Y) C) ∧ (p ≠ q → X ≤ Y → qd (a + b) = lowQ q (Y - X) C) := by
  have h := add_common ha hb
  refine ⟨fun e => ?_, fun e l => ?_, fun e l => ?_⟩
  · subst e; rw [h, sg_same, low_mkRat hC]
  · rw [h, sg_ge e l, low_mkRat hC]
  · rw [h, sg_lt e l, low_mkRat hC]
abbrev cI (T : Nat) (v : AV) : Blk := ⟨T, [v], true, false, true⟩

theorem w_low {b : Bool} {m n : Nat} (hm : (enc B32 m).length ≤ 1099511627775) (hn : (enc B32 n).length ≤ 1099511627775) (h0 : n ≠ 0) :
    CW Tryz.prog 96 [.bool b, natI m, natI n] (.agg [.bool (b && decide (m ≠ 0)), natI (m / Nat.gcd m n), natI (n / Nat.gcd m n)]) := by
  refine cw (by kernel_rfl) (by simp [AV.pure, AV.pureL, natA_pure, natI_pure, natS_pure]) (by simp [AV.pure, AV.pureL, natA_pure, natI_pure, natS_pure]) ?_
  have h1 := w_natOf1
  simp only [natI] at h1
  by_cases hz : m = 0
  · subst hz
    refine CallOk.res (r := .agg [.bool false, .nil, natI 1]) ?_ (sub_agg (SubL.cons (by simpa using Sub.refl _) (SubL.cons (by rw [Nat.zero_div, natI0]; exact sub_nil) (SubL.cons (by rw [Nat.gcd_zero_left, Nat.div_self (by omega)]; exact Sub.refl _) .nil))))
    (refine callOk_of_wpc (W := fun _ => false) false hm' Tryz.func96 rfl (by kernel_rfl) (Nat.le_of_ble_eq_true rfl) (go_start ?_); generalize hQ : Post Tryz.prog Tryz.f96 _ _ _ _ _ = Q; simp only [stIn, matL, matA, st00, natI])
    simp (disch := omega) only [go_sem, ↓k_cond, ↓x_idx, ↓k_block, Nat.reduceEqDiff, Nat.reduceBEq, ↓reduceIte, reduceCtorEq, enc_zero, natA_nil, List.length_nil, h1]
    (repeat (with_reducible refine Or.inr ?_))
    rw [← hQ]
    exact post_cell1 (id := 0) (x := .agg [.bool false, .nil, natI 1]) (.inl rfl) rfl o_iRat (by simp [upd_app] <;> omega) (by simp [upd_app]) (by simp [upd_app, natI]) ld_iRat (by simp [AV.pure, AV.pureL])
  have hml : 0 < (enc B32 m).length := enc_len_pos B32_gt hz
  obtain ⟨g, hg⟩ : ∃ g, Nat.gcd m n = g := ⟨_, rfl⟩
  have hg0 : g ≠ 0 := by rw [← hg]; exact Nat.ne_of_gt (Nat.gcd_pos_of_pos_left _ (by omega))
  have hgm : (enc B32 g).length ≤ 1099511627775 := Nat.le_trans (enc_len_mono B32_gt (by rw [← hg]; exact Nat.le_of_dvd (by omega) (Nat.gcd_dvd_left m n))) hm
  have hgl := enc_len_pos B32_gt hg0
  have h2 := w_natGcd (a := m) (b := n) hm hn
  have h3 := w_natDiv (a := m) (b := g) hm hg0 hgm
  have h4 := w_natDiv (a := n) (b := g) hn hg0 hgm
  rw [hg] at h2 ⊢
  simp only [natI] at h2 h3 h4
  obtain ⟨x, hx⟩ := get_some (xs := enc B32 g) (i := 0) hgl
  have hx' : (enc B32 g)[Int.toNat 0]? = some x := hx
  rw [show (b && decide (m ≠ 0)) = b by simp [hz]]
  by_cases h1g : g = 1
  · subst h1g
    rw [Nat.div_one, Nat.div_one]
    rw [enc_one B32_gt] at hx hx' h2
    obtain rfl : x = 1 := by simpa using hx.symm
    (refine callOk_of_wpc (W := fun _ => false) false hm' Tryz.func96 rfl (by kernel_rfl) (Nat.le_of_ble_eq_true rfl) (go_start ?_); generalize hQ : Post Tryz.prog Tryz.f96 _ _ _ _ _ = Q; simp only [stIn, matL, matA, st00, natI])
    simp (disch := omega) only [go_sem, ↓k_cond, ↓x_idx, ↓k_block, Nat.reduceEqDiff, Nat.reduceBEq, ↓reduceIte, reduceCtorEq, h2, hx', natA_length, List.length_cons, List.length_nil]
    (repeat (with_reducible refine Or.inr ?_))
    rw [← hQ]
    exact post_cell1 (id := 0) (x := .agg [.bool b, natI m, natI n]) (.inl rfl) rfl o_iRat (by simp [upd_app] <;> omega) (by simp [upd_app]) (by simp [upd_app, natI]) ld_iRat (by simp [AV.pure, AV.pureL])
  · by_cases hl1 : (enc B32 g).length = 1
    · have hxg := one_len B32_gt hl1 hx
      (refine callOk_of_wpc (W := fun _ => false) false hm' Tryz.func96 rfl (by kernel_rfl) (Nat.le_of_ble_eq_true rfl) (go_start ?_); generalize hQ : Post Tryz.prog Tryz.f96 _ _ _ _ _ = Q; simp only [stIn, matL, matA, st00, natI])
      simp (disch := omega) only [go_sem, ↓k_cond, ↓x_idx, ↓k_block, Nat.reduceEqDiff, Nat.reduceBEq, ↓reduceIte, reduceCtorEq, h2, h3, h4, hx', hl1]
      (repeat (with_reducible refine Or.inr ?_))
      rw [← hQ]
      exact post_cell1 (id := 0) (x := .agg [.bool b, natI (m / g), natI (n / g)]) (.inl rfl) rfl o_iRat (by simp [upd_app] <;> omega) (by simp [upd_app]) (by simp [upd_app, natI]) ld_iRat (by simp [AV.pure, AV.pureL])
    · (refine callOk_of_wpc (W := fun _ => false) false hm' Tryz.func96 rfl (by kernel_rfl) (Nat.le_of_ble_eq_true rfl) (go_start ?_); generalize hQ : Post Tryz.prog Tryz.f96 _ _ _ _ _ = Q; simp only [stIn, matL, matA, st00, natI])
      simp (disch := omega) only [go_sem, ↓k_cond, ↓x_idx, ↓k_block, Nat.reduceEqDiff, Nat.reduceBEq, ↓reduceIte, reduceCtorEq, h2, h3, h4]
      (repeat (with_reducible refine Or.inr ?_))
      rw [← hQ]
      exact post_cell1 (id := 0) (x := .agg [.bool b, natI (m / g), natI (n / g)]) (.inl rfl) rfl o_iRat (by simp [upd_app] <;> omega) (by simp [upd_app]) (by simp [upd_app, natI]) ld_iRat (by simp [AV.pure, AV.pureL])
attribute [go_sem] w_natOf1
theorem w_mag {n : Int} (h0 : -9223372036854775808 ≤ n) (h1 : n < 9223372036854775808) : CW Tryz.prog 99 [.int .i64 n] (.int .u64 n.natAbs) := by
  refine cw (by kernel_rfl) (by simp [AV.pure, AV.pureL, natA_pure, natI_pure, natS_pure]) (by simp [AV.pure, AV.pureL, natA_pure, natI_pure, natS_pure]) ?_
  (refine callOk_of_wpc (W := fun _ => false) false hm' Tryz.func99 rfl (by kernel_rfl) (Nat.le_of_ble_eq_true rfl) (go_start ?_); generalize hQ : Post Tryz.prog Tryz.f99 _ _ _ _ _ = Q; simp only [stIn, matL, matA, st00])
  by_cases hn : n < 0
  · have e1 : IntKind.u64.wrap n = n + 18446744073709551616 := by simp only [IntKind.wrap, IntKind.signed, IntKind.bits, Bool.false_and, Bool.false_eq_true, if_false]; omega
    have e2 : IntKind.u64.wrap (0 - (n + 18446744073709551616)) = n.natAbs := by simp only [IntKind.wrap, IntKind.signed, IntKind.bits, Bool.false_and, Bool.false_eq_true, if_false]; omega
    simp (disch := omega) only [go_sem, ↓k_cond, ↓x_idx, ↓k_block, Nat.reduceEqDiff, Nat.reduceBEq, ↓reduceIte, reduceCtorEq, e1, e2]
    rw [← hQ]
    exact post_one (.inl rfl) rfl (by simp [upd_app] <;> omega) rfl
  · have e1 : (n.natAbs : Int) = n := by omega
    rw [e1] at hQ
    simp (disch := omega) only [go_sem, ↓k_cond, ↓x_idx, ↓k_block, Nat.reduceEqDiff, Nat.reduceBEq, ↓reduceIte, reduceCtorEq]
    rw [← hQ]
    exact post_one (.inl rfl) rfl (by simp [upd_app] <;> omega) rfl
attribute [go_sem] w_mag
attribute [go_sem] w_mag
theorem w_whole {n : Int} (h0 : -9223372036854775808 ≤ n) (h1 : n < 9223372036854775808) : CW Tryz.prog 52 [.int .i64 n] (rI 64 (n : Rat)) := by
  refine cw (by kernel_rfl) (by simp [AV.pure, AV.pureL, natA_pure, natI_pure, natS_pure]) (by simp [AV.pure, AV.pureL, natA_pure, natI_pure, natS_pure]) ?_
  rw [rI_eq (fits_int (by omega) (by omega)), qd_int, ratI]
  have h2 := w_natOf1
  have h3 := w_natOf (n := n.natAbs) (by omega) (by omega)
  rw [Int.toNat_natCast] at h3
  simp only [natI] at h2 h3
  (refine callOk_of_wpc (W := fun _ => false) false hm' Tryz.func52 rfl (by kernel_rfl) (Nat.le_of_ble_eq_true rfl) (go_start ?_); generalize hQ : Post Tryz.prog Tryz.f52 _ _ _ _ _ = Q; simp only [stIn, matL, matA, st00])
  by_cases hn : n < 0
  all_goals
    simp (disch := omega) only [go_sem, ↓k_cond, ↓x_idx, ↓k_block, Nat.reduceEqDiff, Nat.reduceBEq, ↓reduceIte, reduceCtorEq, h2, h3]
    (repeat (with_reducible refine Or.inr ?_))
    rw [← hQ]
    exact post_cell1 (id := 0) (x := .agg [.bool (decide (n < 0)), natI n.natAbs, natI 1]) (.inl rfl) rfl o_iRat (by simp [upd_app] <;> omega) (by simp [upd_app]) (by simp [upd_app, natI, hn]) ld_iRat (by simp [AV.pure, AV.pureL])
attribute [go_sem] w_whole
theorem w_sign {m : Nat} {a : Rat} (h : m ≤ 274877906944) : CW Tryz.prog 78 [rI m a] (.int .i64 a.num.sign) := by
  refine cw (by kernel_rfl) (by simp [AV.pure, AV.pureL, natA_pure, natI_pure, natS_pure]) (by simp [AV.pure, AV.pureL, natA_pure, natI_pure, natS_pure]) ?_
  refine callOk_told (x := rI m a) told_rI (by simp) (by simp [AV.pure, AV.pureL, natA_pure, natI_pure, natS_pure]) fun ha => ?_
  have hl := len32 ha.1
  rw [rI_eq ha, ratI, qd]
  rcases Int.lt_trichotomy a.num 0 with hn | hn | hn
  · rw [Int.sign_eq_neg_one_of_neg hn]
    have hl0 := enc_len_pos B32_gt (show a.num.natAbs ≠ 0 by omega)
    simp only [hn, decide_true]
    (refine callOk_of_wpc (W := fun _ => false) false hm' Tryz.func78 rfl (by kernel_rfl) (Nat.le_of_ble_eq_true rfl) (go_start ?_); generalize hQ : Post Tryz.prog Tryz.f78 _ _ _ _ _ = Q; simp only [stIn, matL, matA, st00, natI])
    simp (disch := omega) only [go_sem, ↓k_cond, ↓x_idx, ↓k_block, Nat.reduceEqDiff, Nat.reduceBEq, ↓reduceIte, reduceCtorEq]
    rw [← hQ]
    exact post_one (.inl rfl) rfl (by simp [upd_app] <;> omega) rfl
  · rw [hn]
    (refine callOk_of_wpc (W := fun _ => false) false hm' Tryz.func78 rfl (by kernel_rfl) (Nat.le_of_ble_eq_true rfl) (go_start ?_); generalize hQ : Post Tryz.prog Tryz.f78 _ _ _ _ _ = Q; simp only [stIn, matL, matA, st00, natI])
    simp (disch := omega) only [go_sem, ↓k_cond, ↓x_idx, ↓k_block, Nat.reduceEqDiff, Nat.reduceBEq, ↓reduceIte, reduceCtorEq, Int.natAbs_zero, enc_zero, natA_nil, List.length_nil]
    rw [← hQ]
    exact post_one (.inl rfl) rfl (by simp [upd_app] <;> omega) rfl
  · rw [Int.sign_eq_one_of_pos hn]
    have hl0 := enc_len_pos B32_gt (show a.num.natAbs ≠ 0 by omega)
    simp only [show ¬ a.num < 0 by omega, decide_false]
    (refine callOk_of_wpc (W := fun _ => false) false hm' Tryz.func78 rfl (by kernel_rfl) (Nat.le_of_ble_eq_true rfl) (go_start ?_); generalize hQ : Post Tryz.prog Tryz.f78 _ _ _ _ _ = Q; simp only [stIn, matL, matA, st00, natI])
    simp (disch := omega) only [go_sem, ↓k_cond, ↓x_idx, ↓k_block, Nat.reduceEqDiff, Nat.reduceBEq, ↓reduceIte, reduceCtorEq]
    rw [← hQ]
    exact post_one (.inl rfl) rfl (by simp [upd_app] <;> omega) rfl
attribute [go_sem] w_sign
theorem w_minus {m : Nat} {a : Rat} (h : m ≤ 274877906944) : CW Tryz.prog 142 [rI m a] (rI m (-a)) := by
  refine cw (by kernel_rfl) (by simp [AV.pure, AV.pureL, natA_pure, natI_pure, natS_pure]) (by simp [AV.pure, AV.pureL, natA_pure, natI_pure, natS_pure]) ?_
  refine callOk_told (x := rI m a) told_rI (by simp) (by simp [AV.pure, AV.pureL, natA_pure, natI_pure, natS_pure]) fun ha => ?_
  have hl := len32 ha.1
  rw [rI_eq (fits_neg ha), qd_neg, rI_eq ha, ratI, qd, ratI]
  have hx : 0 < (enc B32 a.num.natAbs).length ↔ a.num.natAbs ≠ 0 := ⟨fun h e => by rw [e, enc_zero] at h; simp at h, fun h => enc_len_pos B32_gt h⟩
  by_cases hn : a.num < 0
  · simp only [hn, decide_true]
    (refine callOk_of_wpc (W := fun _ => false) false hm' Tryz.func142 rfl (by kernel_rfl) (Nat.le_of_ble_eq_true rfl) (go_start ?_); generalize hQ : Post Tryz.prog Tryz.f142 _ _ _ _ _ = Q; simp only [stIn, matL, matA, st00, natI])
    simp (disch := omega) only [go_sem, ↓k_cond, ↓x_idx, ↓k_block, Nat.reduceEqDiff, Nat.reduceBEq, ↓reduceIte, reduceCtorEq]
    rw [← hQ]
    exact post_cell1 (id := 1) (x := .agg [.bool false, natI a.num.natAbs, natI a.den]) (.inl rfl) rfl o_iRat (by simp [upd_app] <;> omega) (by simp [upd_app]) (by simp [upd_app, natI]) (by simp [ldA, partA, g_iRat, s_iRat, AV.cells]) (by simp [AV.pure, AV.pureL])
  · simp only [hn, decide_false]
    by_cases h0 : a.num.natAbs = 0
    · rw [show decide (a.num.natAbs ≠ 0) = false by simp [h0]]
      (refine callOk_of_wpc (W := fun _ => false) false hm' Tryz.func142 rfl (by kernel_rfl) (Nat.le_of_ble_eq_true rfl) (go_start ?_); generalize hQ : Post Tryz.prog Tryz.f142 _ _ _ _ _ = Q; simp only [stIn, matL, matA, st00, natI])
      simp (disch := omega) only [go_sem, ↓k_cond, ↓x_idx, ↓k_block, Nat.reduceEqDiff, Nat.reduceBEq, ↓reduceIte, reduceCtorEq]
      rw [← hQ]
      exact post_cell1 (id := 1) (x := .agg [.bool false, natI a.num.natAbs, natI a.den]) (.inl rfl) rfl o_iRat (by simp [upd_app] <;> omega) (by simp [upd_app]) (by simp [upd_app, natI]) (by simp [ldA, partA, g_iRat, s_iRat, AV.cells]) (by simp [AV.pure, AV.pureL])
    · rw [show decide (a.num.natAbs ≠ 0) = true by simp [h0]]
      (refine callOk_of_wpc (W := fun _ => false) false hm' Tryz.func142 rfl (by kernel_rfl) (Nat.le_of_ble_eq_true rfl) (go_start ?_); generalize hQ : Post Tryz.prog Tryz.f142 _ _ _ _ _ = Q; simp only [stIn, matL, matA, st00, natI])
      simp (disch := omega) only [go_sem, ↓k_cond, ↓x_idx, ↓k_block, Nat.reduceEqDiff, Nat.reduceBEq, ↓reduceIte, reduceCtorEq]
      rw [← hQ]
      exact post_cell1 (id := 1) (x := .agg [.bool true, natI a.num.natAbs, natI a.den]) (.inl rfl) rfl o_iRat (by simp [upd_app] <;> omega) (by simp [upd_app]) (by simp [upd_app, natI]) (by simp [ldA, partA, g_iRat, s_iRat, AV.cells]) (by simp [AV.pure, AV.pureL])
attribute [go_sem] w_minus
attribute [go_sem] w_minus
set_option maxHeartbeats 1000000 in
theorem w_add {m n : Nat} {a b : Rat} (h : m + n ≤ 274877906944) : CW Tryz.prog 66 [rI m a, rI n b] (rI (m + n + 1) (a + b)) := by
  refine cw (by kernel_rfl) (by simp [AV.pure, AV.pureL, natA_pure, natI_pure, natS_pure]) (by simp [AV.pure, AV.pureL, natA_pure, natI_pure, natS_pure]) ?_
  refine callOk_told (x := rI m a) told_rI (by simp) (by simp [AV.pure, AV.pureL, natA_pure, natI_pure, natS_pure]) fun ha => ?_
  refine callOk_told (x := rI n b) told_rI (by simp) (by simp [AV.pure, AV.pureL, natA_pure, natI_pure, natS_pure]) fun hb => ?_
  have hsa := w_sign (a := a) (m := m) (by omega)
  have hsb := w_sign (a := b) (m := n) (by omega)
  rw [rI_eq ha] at hsa
  rw [rI_eq hb] at hsb
  rw [rI_eq ha, rI_eq hb, rI_eq (fits_add ha hb)]
  have lx := len32 ha.1
  have ld := len32 ha.2
  have ly := len32 hb.1
  have le := len32 hb.2
  have hd0 := den_ne a
  have he0 := den_ne b
  have ea := self_mkRat a
  have eb := self_mkRat b
  have hxe : (enc B32 (a.num.natAbs * b.den)).length ≤ m + n := len32 (mul_lt_pow ha.1 hb.2)
  have hyd : (enc B32 (b.num.natAbs * a.den)).length ≤ m + n := by rw [Nat.add_comm m n]; exact len32 (mul_lt_pow hb.1 ha.2)
  have hde' : (enc B32 (a.den * b.den)).length ≤ m + n := len32 (mul_lt_pow ha.2 hb.2)
  have hsum : (enc B32 (a.num.natAbs * b.den + b.num.natAbs * a.den)).length ≤ m + n + 1 := by
    refine len32 ?_
    have h1 := mul_lt_pow ha.1 hb.2
    have h2 := mul_lt_pow hb.1 ha.2
    rw [Nat.add_comm n m] at h2
    rw [Nat.pow_succ]; omega
  have hsum' : (enc B32 (a.num.natAbs + b.num.natAbs)).length ≤ m + n + 1 := by
    refine len32 ?_
    have h1 := ha.1
    have h2 := hb.1
    have h3 : 2 ^ m ≤ 2 ^ (m + n) := Nat.pow_le_pow_right (by omega) (by omega)
    have h4 : 2 ^ n ≤ 2 ^ (m + n) := Nat.pow_le_pow_right (by omega) (by omega)
    rw [Nat.pow_succ]; omega
  obtain ⟨p, hp⟩ : ∃ p, decide (a.num < 0) = p := ⟨_, rfl⟩
  obtain ⟨q, hq⟩ : ∃ p, decide (b.num < 0) = p := ⟨_, rfl⟩
  have hr1 : qd a = (p, a.num.natAbs, a.den) := by rw [← hp]; rfl
  have hr2 : qd b = (q, b.num.natAbs, b.den) := by rw [← hq]; rfl
  rw [hr1] at hsa ea
  rw [hr2] at hsb eb
  clear hp hq
  by_cases hx0 : a.num = 0
  · have e : a + b = b := by rw [num_zero.1 hx0, Rat.zero_add]
    rw [e, hr1, hr2]
    rw [show a.num.sign = 0 by rw [hx0]; rfl] at hsa
    clear hsb ea eb
    simp only [ratI, natI] at hsa
    (refine callOk_of_wpc (W := fun _ => false) false hm' Tryz.func66 rfl (by kernel_rfl) (Nat.le_of_ble_eq_true rfl) (go_start ?_); generalize hQ : Post Tryz.prog Tryz.f66 _ _ _ _ _ = Q; simp only [stIn, matL, matA, st00, natI,ratI])
    simp (disch := omega) only [go_sem, ↓k_cond, ↓x_idx, ↓k_block, Nat.reduceEqDiff, Nat.reduceBEq, ↓reduceIte, reduceCtorEq, hsa]
    (repeat (with_reducible refine Or.inr ?_))
    rw [← hQ]
    exact post_cell1 (id := 2) (x := ratI (q, b.num.natAbs, b.den)) (.inl rfl) rfl o_iRat (by simp [upd_app] <;> omega) (by simp [upd_app]) (by simp [upd_app, natI, ratI]) ld_iRat (by simp)
  have hsx : a.num.sign ≠ 0 := fun e => hx0 (Int.sign_eq_zero_iff_zero.1 e)
  by_cases hy0 : b.num = 0
  · have e : a + b = a := by rw [num_zero.1 hy0, Rat.add_zero]
    rw [e, hr1, hr2]
    rw [show b.num.sign = 0 by rw [hy0]; rfl] at hsb
    obtain ⟨s, hs⟩ : ∃ s, a.num.sign = s := ⟨_, rfl⟩
    rw [hs] at hsa hsx
    clear ea eb
    simp only [ratI, natI] at hsa hsb
    (refine callOk_of_wpc (W := fun _ => false) false hm' Tryz.func66 rfl (by kernel_rfl) (Nat.le_of_ble_eq_true rfl) (go_start ?_); generalize hQ : Post Tryz.prog Tryz.f66 _ _ _ _ _ = Q; simp only [stIn, matL, matA, st00, natI,ratI])
    simp (disch := omega) only [go_sem, ↓k_cond, ↓x_idx, ↓k_block, Nat.reduceEqDiff, Nat.reduceBEq, ↓reduceIte, reduceCtorEq, hsa, hsb]
    (repeat (with_reducible refine Or.inr ?_))
    rw [← hQ]
    exact post_cell1 (id := 2) (x := ratI (p, a.num.natAbs, a.den)) (.inl rfl) rfl o_iRat (by simp [upd_app] <;> omega) (by simp [upd_app]) (by simp [upd_app, natI, ratI]) ld_iRat (by simp)
  have hsy : b.num.sign ≠ 0 := fun e => hy0 (Int.sign_eq_zero_iff_zero.1 e)
  clear hx0 hy0
  obtain ⟨s, hs⟩ : ∃ s, a.num.sign = s := ⟨_, rfl⟩
  obtain ⟨t, ht⟩ : ∃ s, b.num.sign = s := ⟨_, rfl⟩
  obtain ⟨v, hv⟩ : ∃ v, qd (a + b) = v := ⟨_, rfl⟩
  rw [hv, hr1, hr2]
  rw [hs] at hsa hsx; rw [ht] at hsb hsy
  simp only at ea eb
  clear hs ht hr1 hr2 ha hb
  obtain ⟨x, hx⟩ : ∃ x, a.num.natAbs = x := ⟨_, rfl⟩
  obtain ⟨y, hy⟩ : ∃ x, b.num.natAbs = x := ⟨_, rfl⟩
  obtain ⟨d, hd⟩ : ∃ x, a.den = x := ⟨_, rfl⟩
  obtain ⟨e, he⟩ : ∃ x, b.den = x := ⟨_, rfl⟩
  rw [hx, hd] at hsa ea; rw [hy, he] at hsb eb
  rw [hx] at lx hxe hsum hsum'; rw [hd] at ld hyd hde' hd0 hsum; rw [hy] at ly hyd hsum hsum'; rw [he] at le hxe hde' he0 hsum
  rw [hx, hy, hd, he]
  clear hx hy hd he
  have hne : ∀ {p q : Bool}, p ≠ q → (p == q) = false := by decide
  by_cases hde : d = e
  · subst hde
    have hcm := w_natCmp (a := d) (b := d) (by omega) (by omega)
    rw [cmpI_eq] at hcm
    obtain ⟨k1, k2, k3⟩ := add_low hd0 ea eb
    rw [hv] at k1 k2 k3
    clear ea eb hv
    by_cases hpq : p = q
    · subst hpq
      have h1 := w_natAdd (a := x) (b := y) (by omega) (by omega)
      have h2 := w_low (b := p) (m := x + y) (n := d) (by omega) (by omega) hd0
      rw [k1 rfl]
      simp only [natI, ratI] at hsa hsb hcm h1 h2
      (refine callOk_of_wpc (W := fun _ => false) false hm' Tryz.func66 rfl (by kernel_rfl) (Nat.le_of_ble_eq_true rfl) (go_start ?_); generalize hQ : Post Tryz.prog Tryz.f66 _ _ _ _ _ = Q; simp only [stIn, matL, matA, st00, natI,ratI])
      simp (disch := omega) only [go_sem, ↓k_cond, ↓x_idx, ↓k_block, Nat.reduceEqDiff, Nat.reduceBEq, ↓reduceIte, reduceCtorEq, hsa, hsb, hcm, h1, h2]
      (repeat (with_reducible refine Or.inr ?_))
      rw [← hQ]
      exact post_cell1 (id := 2) (x := ratI (lowQ p (x + y) d)) (.inl rfl) rfl o_iRat (by simp [upd_app] <;> omega) (by simp [upd_app]) (by simp [upd_app, natI, ratI, lowQ] <;> (intros; omega)) ld_iRat (by simp)
    · have hcx := w_natCmp (a := x) (b := y) (by omega) (by omega)
      have e1 := hne hpq
      by_cases hxy : y ≤ x
      · have h1 := w_natSub (a := x) (b := y) (by omega) hxy
        have h2 := w_low (b := p) (m := x - y) (n := d) (Nat.le_trans (enc_len_mono B32_gt (Nat.sub_le x y)) (by omega)) (by omega) hd0
        have hc0 : 0 ≤ cmpI x y := cmpI_ge hxy
        rw [k2 hpq hxy]
        simp only [natI, ratI] at hsa hsb hcm hcx h1 h2
        (refine callOk_of_wpc (W := fun _ => false) false hm' Tryz.func66 rfl (by kernel_rfl) (Nat.le_of_ble_eq_true rfl) (go_start ?_); generalize hQ : Post Tryz.prog Tryz.f66 _ _ _ _ _ = Q; simp only [stIn, matL, matA, st00, natI,ratI])
        simp (disch := omega) only [go_sem, ↓k_cond, ↓x_idx, ↓k_block, Nat.reduceEqDiff, Nat.reduceBEq, ↓reduceIte, reduceCtorEq, hsa, hsb, hcm, h1, h2, hcx, e1]
        (repeat (with_reducible refine Or.inr ?_))
        rw [← hQ]
        exact post_cell1 (id := 2) (x := ratI (lowQ p (x - y) d)) (.inl rfl) rfl o_iRat (by simp [upd_app] <;> omega) (by simp [upd_app]) (by simp [upd_app, natI, ratI, lowQ] <;> (intros; omega)) ld_iRat (by simp)
      · have h1 := w_natSub (a := y) (b := x) (by omega) (by omega)
        have h2 := w_low (b := q) (m := y - x) (n := d) (Nat.le_trans (enc_len_mono B32_gt (Nat.sub_le y x)) (by omega)) (by omega) hd0
        have hc0 : cmpI x y < 0 := by rw [cmpI_lt (by omega)]; omega
        rw [k3 hpq (by omega)]
        simp only [natI, ratI] at hsa hsb hcm hcx h1 h2
        (refine callOk_of_wpc (W := fun _ => false) false hm' Tryz.func66 rfl (by kernel_rfl) (Nat.le_of_ble_eq_true rfl) (go_start ?_); generalize hQ : Post Tryz.prog Tryz.f66 _ _ _ _ _ = Q; simp only [stIn, matL, matA, st00, natI,ratI])
        simp (disch := omega) only [go_sem, ↓k_cond, ↓x_idx, ↓k_block, Nat.reduceEqDiff, Nat.reduceBEq, ↓reduceIte, reduceCtorEq, hsa, hsb, hcm, h1, h2, hcx, e1]
        (repeat (with_reducible refine Or.inr ?_))
        rw [← hQ]
        exact post_cell1 (id := 2) (x := ratI (lowQ q (y - x) d)) (.inl rfl) rfl o_iRat (by simp [upd_app] <;> omega) (by simp [upd_app]) (by simp [upd_app, natI, ratI, lowQ] <;> (intros; omega)) ld_iRat (by simp)
  · have hcm := w_natCmp (a := d) (b := e) (by omega) (by omega)
    have hcm0 : cmpI d e ≠ 0 := cmpI_ne (by omega)
    have m1 := w_natMul (a := x) (b := e) (by omega) (by omega)
    have m2 := w_natMul (a := y) (b := d) (by omega) (by omega)
    have m3 := w_natMul (a := d) (b := e) (by omega) (by omega)
    have hC0 : d * e ≠ 0 := Nat.mul_ne_zero hd0 he0
    rw [scale_mkRat he0] at ea
    rw [scale_mkRat hd0, Nat.mul_comm e d] at eb
    obtain ⟨k1, k2, k3⟩ := add_low hC0 ea eb
    rw [hv] at k1 k2 k3
    clear ea eb hv
    obtain ⟨X, hX⟩ : ∃ z, x * e = z := ⟨_, rfl⟩
    obtain ⟨Y, hY⟩ : ∃ z, y * d = z := ⟨_, rfl⟩
    obtain ⟨C, hC⟩ : ∃ z, d * e = z := ⟨_, rfl⟩
    rw [hX] at m1 k1 k2 k3 hxe hsum; rw [hY] at m2 k1 k2 k3 hyd hsum; rw [hC] at m3 k1 k2 k3 hC0 hde'
    by_cases hpq : p = q
    · subst hpq
      have h1 := w_natAdd (a := X) (b := Y) (by omega) (by omega)
      have h2 := w_low (b := p) (m := X + Y) (n := C) (by omega) (by omega) hC0
      rw [k1 rfl]
      simp only [natI, ratI] at hsa hsb hcm m1 m2 m3 h1 h2
      (refine callOk_of_wpc (W := fun _ => false) false hm' Tryz.func66 rfl (by kernel_rfl) (Nat.le_of_ble_eq_true rfl) (go_start ?_); generalize hQ : Post Tryz.prog Tryz.f66 _ _ _ _ _ = Q; simp only [stIn, matL, matA, st00, natI,ratI])
      simp (disch := omega) only [go_sem, ↓k_cond, ↓x_idx, ↓k_block, Nat.reduceEqDiff, Nat.reduceBEq, ↓reduceIte, reduceCtorEq, hsa, hsb, hcm, h1, h2, m1, m2, m3]
      (repeat (with_reducible refine Or.inr ?_))
      rw [← hQ]
      exact post_cell1 (id := 2) (x := ratI (lowQ p (X + Y) C)) (.inl rfl) rfl o_iRat (by simp [upd_app] <;> omega) (by simp [upd_app]) (by simp [upd_app, natI, ratI, lowQ] <;> (intros; omega)) ld_iRat (by simp)
    · have hcx := w_natCmp (a := X) (b := Y) (by omega) (by omega)
      have e1 := hne hpq
      by_cases hxy : Y ≤ X
      · have h1 := w_natSub (a := X) (b := Y) (by omega) hxy
        have h2 := w_low (b := p) (m := X - Y) (n := C) (Nat.le_trans (enc_len_mono B32_gt (Nat.sub_le X Y)) (by omega)) (by omega) hC0
        have hc0 : 0 ≤ cmpI X Y := cmpI_ge hxy
        rw [k2 hpq hxy]
        simp only [natI, ratI] at hsa hsb hcm m1 m2 m3 hcx h1 h2
        clear k1 k2 k3 hX hY hC hsum hsum' hxe hyd hde' lx ld ly le hd0 he0 hC0 hde hne
        (refine callOk_of_wpc (W := fun _ => false) false hm' Tryz.func66 rfl (by kernel_rfl) (Nat.le_of_ble_eq_true rfl) (go_start ?_); generalize hQ : Post Tryz.prog Tryz.f66 _ _ _ _ _ = Q; simp only [stIn, matL, matA, st00, natI,ratI])
        simp (disch := omega) only [go_sem, ↓k_cond, ↓x_idx, ↓k_block, Nat.reduceEqDiff, Nat.reduceBEq, ↓reduceIte, reduceCtorEq, hsa, hsb, hcm, h1, h2, hcx, e1, m1, m2, m3]
        (repeat (with_reducible refine Or.inr ?_))
        rw [← hQ]
        exact post_cell1 (id := 2) (x := ratI (lowQ p (X - Y) C)) (.inl rfl) rfl o_iRat (by simp [upd_app] <;> omega) (by simp [upd_app]) (by simp [upd_app, natI, ratI, lowQ] <;> (intros; omega)) ld_iRat (by simp)
      · have h1 := w_natSub (a := Y) (b := X) (by omega) (by omega)
        have h2 := w_low (b := q) (m := Y - X) (n := C) (Nat.le_trans (enc_len_mono B32_gt (Nat.sub_le Y X)) (by omega)) (by omega) hC0
        have hc0 : cmpI X Y < 0 := by rw [cmpI_lt (by omega)]; omega
        rw [k3 hpq (by omega)]
        simp only [natI, ratI] at hsa hsb hcm m1 m2 m3 hcx h1 h2
        clear k1 k2 k3 hX hY hC hsum hsum' hxe hyd hde' lx ld ly le hd0 he0 hC0 hde hne
        (refine callOk_of_wpc (W := fun _ => false) false hm' Tryz.func66 rfl (by kernel_rfl) (Nat.le_of_ble_eq_true rfl) (go_start ?_); generalize hQ : Post Tryz.prog Tryz.f66 _ _ _ _ _ = Q; simp only [stIn, matL, matA, st00, natI,ratI])
        simp (disch := omega) only [go_sem, ↓k_cond, ↓x_idx, ↓k_block, Nat.reduceEqDiff, Nat.reduceBEq, ↓reduceIte, reduceCtorEq, hsa, hsb, hcm, h1, h2, hcx, e1, m1, m2, m3]
        (repeat (with_reducible refine Or.inr ?_))
        rw [← hQ]
        exact post_cell1 (id := 2) (x := ratI (lowQ q (Y - X) C)) (.inl rfl) rfl o_iRat (by simp [upd_app] <;> omega) (by simp [upd_app]) (by simp [upd_app, natI, ratI, lowQ] <;> (intros; omega)) ld_iRat (by simp)
attribute [go_sem] w_add
attribute [go_sem] w_add
theorem w_sub {m n : Nat} {a b : Rat} (h : m + n ≤ 274877906944) : CW Tryz.prog 119 [rI m a, rI n b] (rI (m + n + 1) (a - b)) := by
  refine cw (by kernel_rfl) (by simp [AV.pure, AV.pureL, natA_pure, natI_pure, natS_pure]) (by simp [AV.pure, AV.pureL, natA_pure, natI_pure, natS_pure]) ?_
  rw [Rat.sub_eq_add_neg]
  (refine callOk_of_wpc (W := fun _ => false) false hm' Tryz.func119 rfl (by kernel_rfl) (Nat.le_of_ble_eq_true rfl) (go_start ?_); generalize hQ : Post Tryz.prog Tryz.f119 _ _ _ _ _ = Q; simp only [stIn, matL, matA, st00])
  simp (disch := omega) only [go_sem, ↓k_cond, ↓x_idx, ↓k_block, Nat.reduceEqDiff, Nat.reduceBEq, ↓reduceIte, reduceCtorEq]
  (repeat (with_reducible refine Or.inr ?_))
  rw [← hQ]
  exact post_cell1 (id := 2) (x := rI (m + n + 1) (a + -b)) (.inl rfl) rfl o_iRat (by simp [upd_app] <;> omega) (by simp [upd_app]) (by simp [upd_app]) ld_iRat (by simp [AV.pure, AV.pureL])
attribute [go_sem] w_sub
theorem sg_prod {p q : Bool} {x y : Nat} : sg p x * sg q y = sg (p != q) (x * y) := by cases p <;> cases q <;> simp [sg, Int.neg_mul, Int.mul_neg, Int.natCast_mul]
theorem mul_low {a b : Rat} {p q : Bool} {x y d e : Nat} (ha : qd a = (p, x, d)) (hb : qd b = (q, y, e)) (hd : d ≠ 0) (he : e ≠ 0) : qd (a * b) = lowQ (p != q) (x * y) (d * e) := by
  rw [← low_mkRat (Nat.mul_ne_zero hd he), ← sg_prod, Rat.mul_def']
  have h1 := qd_sg a
  have h2 := qd_sg b
  rw [ha] at h1; rw [hb] at h2
  rw [h1, h2, show a.den = d from congrArg (·.2.2) ha, show b.den = e from congrArg (·.2.2) hb]
theorem qd_ne {a : Rat} {p : Bool} {x d : Nat} (h : qd a = (p, x, d)) : (a.num ≠ 0 ↔ x ≠ 0) ∧ d ≠ 0 := by
  have h1 : a.num.natAbs = x := congrArg (·.2.1) h
  have h2 : a.den = d := congrArg (·.2.2) h
  exact ⟨by omega, by rw [← h2]; exact a.den_nz⟩
theorem qd_inv {b : Rat} {q : Bool} {y e : Nat} (hb : qd b = (q, y, e)) (h0 : b.num ≠ 0) : qd b⁻¹ = (q, e, y) := by
  have hy : y ≠ 0 := (qd_ne hb).1.1 h0
  have he : e ≠ 0 := (qd_ne hb).2
  have h1 : b.num.natAbs = y := congrArg (·.2.1) hb
  have h2 : b.den = e := congrArg (·.2.2) hb
  have h3 : decide (b.num < 0) = q := congrArg (·.1) hb
  have e1 := self_mkRat b
  rw [hb] at e1
  simp only at e1
  have e2 : b⁻¹ = mkRat (sg q e) y := by
    refine Rat.inv_eq_of_mul_eq_one ?_
    rw [e1, Rat.mkRat_mul_mkRat, sg_prod]
    have : (q != q) = false := by cases q <;> rfl
    rw [this, Nat.mul_comm y e]
    exact Rat.mkRat_self (1 : Rat) ▸ (by
      rw [show sg false (e * y) = (1 : Int) * ((e * y : Nat) : Int) by simp [sg], show e * y = 1 * (e * y) by omega]
      rw [show ((1 * (e * y) : Nat) : Int) = ((e * y : Nat) : Int) by simp]
      rw [Rat.mkRat_mul_right (Nat.mul_ne_zero he hy)]
      rfl)
  have hg : Nat.gcd e y = 1 := by
    have := b.reduced
    rw [Nat.Coprime, h1, h2] at this
    rw [Nat.gcd_comm]; exact this
  rw [e2, low_mkRat hy, lowQ, hg, Nat.div_one, Nat.div_one]
  simp [he]
theorem over_low {a b : Rat} {p q : Bool} {x y d e : Nat} (ha : qd a = (p, x, d)) (hb : qd b = (q, y, e)) (h0 : b.num ≠ 0) : qd (a / b) = lowQ (p != q) (x * e) (d * y) := by
  rw [Rat.div_def]
  exact mul_low ha (qd_inv hb h0) (qd_ne ha).2 ((qd_ne hb).1.1 h0)
theorem fits_inv {m : Nat} {a : Rat} (h : fits m a) (h0 : a.num ≠ 0) : fits m a⁻¹ := by
  have := qd_inv (b := a) rfl h0
  have h1 : a⁻¹.num.natAbs = a.den := congrArg (·.2.1) this
  have h2 : a⁻¹.den = a.num.natAbs := congrArg (·.2.2) this
  exact ⟨by rw [h1]; exact h.2, by rw [h2]; exact h.1⟩
theorem fits_over {m n : Nat} {a b : Rat} (h1 : fits m a) (h2 : fits n b) (h0 : b.num ≠ 0) : fits (m + n) (a / b) := by
  rw [Rat.div_def]; exact fits_mul h1 (fits_inv h2 h0) (fits_pos h1)
theorem cross_low {p : Bool} {x y d e : Nat} (hx : x ≠ 0) (hy : y ≠ 0) (hd : d ≠ 0) (he : e ≠ 0) (h1 : Nat.gcd x d = 1) (h2 : Nat.gcd y e = 1) :
    lowQ p (x * y) (d * e) = (p, x / Nat.gcd x e * (y / Nat.gcd y d), e / Nat.gcd x e * (d / Nat.gcd y d)) := by
  have k1 : 0 < Nat.gcd x e := Nat.gcd_pos_of_pos_left _ (by omega)
  have k2 : 0 < Nat.gcd y d := Nat.gcd_pos_of_pos_left _ (by omega)
  obtain ⟨g, hg⟩ : ∃ g, Nat.gcd x e = g := ⟨_, rfl⟩
  obtain ⟨k, hk⟩ : ∃ k, Nat.gcd y d = k := ⟨_, rfl⟩
  obtain ⟨x', hx'⟩ : g ∣ x := by rw [← hg]; exact Nat.gcd_dvd_left x e
  obtain ⟨e', he'⟩ : g ∣ e := by rw [← hg]; exact Nat.gcd_dvd_right x e
  obtain ⟨y', hy'⟩ : k ∣ y := by rw [← hk]; exact Nat.gcd_dvd_left y d
  obtain ⟨d', hd'⟩ : k ∣ d := by rw [← hk]; exact Nat.gcd_dvd_right y d
  rw [hg] at k1; rw [hk] at k2
  have q1 : Nat.gcd x' e' = 1 := by
    have : g * Nat.gcd x' e' = g * 1 := by rw [← Nat.gcd_mul_left, ← hx', ← he', hg]; omega
    exact Nat.eq_of_mul_eq_mul_left k1 this
  have q2 : Nat.gcd y' d' = 1 := by
    have : k * Nat.gcd y' d' = k * 1 := by rw [← Nat.gcd_mul_left, ← hy', ← hd', hk]; omega
    exact Nat.eq_of_mul_eq_mul_left k2 this
  have q3 : Nat.gcd x' d' = 1 := Nat.eq_one_of_dvd_one (by rw [← h1, hx', hd']; exact Nat.dvd_trans (Nat.gcd_dvd_gcd_of_dvd_left _ (Nat.dvd_mul_left x' g)) (Nat.gcd_dvd_gcd_of_dvd_right _ (Nat.dvd_mul_left d' k)))
  have q4 : Nat.gcd y' e' = 1 := Nat.eq_one_of_dvd_one (by rw [← h2, hy', he']; exact Nat.dvd_trans (Nat.gcd_dvd_gcd_of_dvd_left _ (Nat.dvd_mul_left y' k)) (Nat.gcd_dvd_gcd_of_dvd_right _ (Nat.dvd_mul_left e' g)))
  have hgk : 0 < g * k := Nat.mul_pos k1 k2
  have e1 : x * y = g * k * (x' * y') := by rw [hx', hy']; simp only [Nat.mul_comm, Nat.mul_left_comm, Nat.mul_assoc]
  have e2 : d * e = g * k * (e' * d') := by rw [hd', he']; simp only [Nat.mul_comm, Nat.mul_left_comm, Nat.mul_assoc]
  have q : Nat.gcd (x' * y') (e' * d') = 1 := by
    have c1 : Nat.Coprime x' (e' * d') := Nat.Coprime.mul_right q1 q3
    have c2 : Nat.Coprime y' (e' * d') := Nat.Coprime.mul_right q4 q2
    exact Nat.Coprime.mul_left c1 c2
  have hxy : x * y ≠ 0 := Nat.mul_ne_zero hx hy
  rw [lowQ, e1, e2, Nat.gcd_mul_left, q, Nat.mul_one, Nat.mul_div_cancel_left _ hgk, Nat.mul_div_cancel_left _ hgk]
  rw [e1] at hxy
  simp only [hxy, ne_eq, not_false_eq_true, decide_true, Bool.and_true]
  rw [hg, hk, hx', he', hy', hd', Nat.mul_div_cancel_left _ k1, Nat.mul_div_cancel_left _ k1, Nat.mul_div_cancel_left _ k2, Nat.mul_div_cancel_left _ k2]
theorem less_of {a b : Rat} {p q : Bool} {x y d e : Nat} (ha : qd a = (p, x, d)) (hb : qd b = (q, y, e)) :
    (p ≠ q → decide (a < b) = p) ∧ (p = q → decide (a < b) = (!p && decide (cmpI (x * e) (y * d) < 0) || p && decide (cmpI (x * e) (y * d) > 0))) ∧ (decide (a = b) = (decide (p = q) && decide (cmpI (x * e) (y * d) = 0))) := by
  have hc := cmp_lt a b
  rw [ha, hb] at hc
  have hn : ∀ m n : Nat, cmpI m n = cmpN m n := fun m n => by simp [cmpI, cmpN]
  have sx : p = true → x ≠ 0 := by
    intro h
    have h1 : decide (a.num < 0) = p := congrArg (·.1) ha
    have h2 : a.num.natAbs = x := congrArg (·.2.1) ha
    rw [h] at h1; simp at h1; omega
  have sy : q = true → y ≠ 0 := by
    intro h
    have h1 : decide (b.num < 0) = q := congrArg (·.1) hb
    have h2 : b.num.natAbs = y := congrArg (·.2.1) hb
    rw [h] at h1; simp at h1; omega
  have hd := (qd_ne ha).2
  have he := (qd_ne hb).2
  simp only [cmpQ, sgnQ] at hc
  simp only [hn]
  have mx : x = 0 → x * e = 0 := fun h => by rw [h, Nat.zero_mul]
  have my : y = 0 → y * d = 0 := fun h => by rw [h, Nat.zero_mul]
  have nx : x ≠ 0 → 0 < x * e := fun h => Nat.mul_pos (by omega) (by omega)
  have ny : y ≠ 0 → 0 < y * d := fun h => Nat.mul_pos (by omega) (by omega)
  have hlt : decide (a < b) = decide (cmpQ (p, x, d) (q, y, e) < 0) := decide_eq_decide.2 (by simp only [cmpQ, sgnQ]; exact hc.1.symm)
  have heq : decide (a = b) = decide (cmpQ (p, x, d) (q, y, e) = 0) := decide_eq_decide.2 (by simp only [cmpQ, sgnQ]; exact hc.2.symm)
  rw [hlt, heq]
  simp only [cmpQ, sgnQ, cmpN]
  generalize x * e = X at *
  generalize y * d = Y at *
  clear hc hlt heq hn
  rcases Nat.lt_trichotomy X Y with h | h | h
  · have h1 : ¬ Y < X := by omega
    simp only [h, h1, if_true, if_false]
    by_cases x0 : x = 0 <;> by_cases y0 : y = 0 <;> cases p <;> cases q <;> simp_all <;> first | omega | exact ⟨rfl, rfl⟩ | rfl
  · have h1 : ¬ Y < X := by omega
    have h2 : ¬ X < Y := by omega
    simp only [h1, h2, if_false]
    by_cases x0 : x = 0 <;> by_cases y0 : y = 0 <;> cases p <;> cases q <;> simp_all <;> first | omega | exact ⟨rfl, rfl⟩ | rfl
  · have h1 : ¬ X < Y := by omega
    simp only [h, h1, if_true, if_false]
    by_cases x0 : x = 0 <;> by_cases y0 : y = 0 <;> cases p <;> cases q <;> simp_all <;> first | omega | exact ⟨rfl, rfl⟩ | rfl
theorem natS1 : natS 1 = .sl 2 [.int .i64 1] [] false := by simp [natS, enc_one B9_gt, natA]
theorem w_sCmp1 {a : Nat} (ha : (enc B9 a).length < 9223372036854775808) : CW Tryz.prog 106 [natS a, .sl 2 [.int .i64 1] [] true] (.int .i64 (cmpI a 1)) :=
  cw (by kernel_rfl) (by simp [AV.pure, AV.pureL, natA_pure, natI_pure, natS_pure]) (by simp [AV.pure, AV.pureL, natA_pure, natI_pure, natS_pure]) ((s_Cmp hm' a 1 ha (by rw [enc_one B9_gt]; decide)).args (SubL.cons (Sub.refl _) (SubL.cons (by rw [natS1]; exact sub_sl) .nil)))
attribute [go_sem] w_sCmp1
theorem w_sMake {b : Bool} {m n : Nat} (hm : (enc B9 m).length ≤ 1099511627775) (hn : (enc B9 n).length ≤ 1099511627775) (h0 : n ≠ 0) : CW Tryz.prog 91 [.bool b, natS m, natS n] (ratS (lowQ b m n)) := by
  refine cw (by kernel_rfl) (by simp [AV.pure, AV.pureL, natA_pure, natI_pure, natS_pure]) (by simp [AV.pure, AV.pureL, natA_pure, natI_pure, natS_pure]) ?_
  obtain ⟨g, hg⟩ : ∃ g, Nat.gcd m n = g := ⟨_, rfl⟩
  have hg0 : g ≠ 0 := by rw [← hg]; exact Nat.ne_of_gt (Nat.gcd_pos_of_pos_right _ (by omega))
  have hgn : (enc B9 g).length ≤ 1099511627775 := Nat.le_trans (enc_len_mono B9_gt (by rw [← hg]; exact Nat.le_of_dvd (by omega) (Nat.gcd_dvd_right m n))) hn
  have h2 := w_sGcd (a := m) (b := n) hm hn
  have h3 := w_sDiv (a := m) (b := g) hm hg0 hgn
  have h4 := w_sDiv (a := n) (b := g) hn hg0 hgn
  have h5 := w_sCmp1 (a := g) (by omega)
  rw [lowQ]
  rw [hg] at h2 ⊢
  simp only [natS] at h2 h3 h4 h5
  have hpos : ∀ k : Nat, (0 < (enc B9 k).length) ↔ k ≠ 0 := fun k => ⟨fun h e => by rw [e, enc_zero] at h; simp at h, fun h => enc_len_pos B9_gt h⟩
  have hfin : ∀ (x : Nat), (x ≠ 0 ↔ m ≠ 0) → (b && decide (m ≠ 0)) = (b && decide (0 < (enc B9 x).length)) := fun x h => by simp [hpos, h]
  by_cases h1g : g = 1
  · subst h1g
    rw [cmpI_eq] at h5
    rw [Nat.div_one, Nat.div_one, hfin m Iff.rfl]
    cases b
    · (refine callOk_of_wpc (W := fun _ => false) false hm' Tryz.func91 rfl (by kernel_rfl) (Nat.le_of_ble_eq_true rfl) (go_start ?_); generalize hQ : Post Tryz.prog Tryz.f91 _ _ _ _ _ = Q; simp only [stIn, matL, matA, st00, natS])
      simp (disch := omega) only [go_sem, ↓k_cond, ↓x_idx, ↓k_block, Nat.reduceEqDiff, Nat.reduceBEq, ↓reduceIte, reduceCtorEq, h2, h5]
      (repeat (with_reducible refine Or.inr ?_))
      rw [← hQ]
      exact post_cell1 (id := 0) (x := .agg [.bool (false && decide (0 < (enc B9 m).length)), natS m, natS n]) (.inl rfl) rfl o_sRat (by simp [upd_app] <;> omega) (by simp [upd_app]) (by simp [upd_app, natS]) (by simp [ratS, ldA, partA, g_sRat, s_sRat, AV.cells]) (by simp [AV.pure, AV.pureL, natS_pure])
    · (refine callOk_of_wpc (W := fun _ => false) false hm' Tryz.func91 rfl (by kernel_rfl) (Nat.le_of_ble_eq_true rfl) (go_start ?_); generalize hQ : Post Tryz.prog Tryz.f91 _ _ _ _ _ = Q; simp only [stIn, matL, matA, st00, natS])
      simp (disch := omega) only [go_sem, ↓k_cond, ↓x_idx, ↓k_block, Nat.reduceEqDiff, Nat.reduceBEq, ↓reduceIte, reduceCtorEq, h2, h5]
      (repeat (with_reducible refine Or.inr ?_))
      rw [← hQ]
      exact post_cell1 (id := 0) (x := .agg [.bool (true && decide (0 < (enc B9 m).length)), natS m, natS n]) (.inl rfl) rfl o_sRat (by simp [upd_app] <;> omega) (by simp [upd_app]) (by simp [upd_app, natS]) (by simp [ratS, ldA, partA, g_sRat, s_sRat, AV.cells]) (by simp [AV.pure, AV.pureL, natS_pure])
  · have hc0 : cmpI g 1 ≠ 0 := cmpI_ne (by omega)
    have hm0 : m / g ≠ 0 ↔ m ≠ 0 := by
      constructor
      · rintro h rfl; simp at h
      · intro h h'
        have := Nat.div_mul_cancel (by rw [← hg]; exact Nat.gcd_dvd_left m n : g ∣ m)
        rw [h'] at this; omega
    rw [hfin (m / g) hm0]
    have hdl := enc_div_len (B := B9) (m := m) (g := g) B9_gt
    cases b
    · (refine callOk_of_wpc (W := fun _ => false) false hm' Tryz.func91 rfl (by kernel_rfl) (Nat.le_of_ble_eq_true rfl) (go_start ?_); generalize hQ : Post Tryz.prog Tryz.f91 _ _ _ _ _ = Q; simp only [stIn, matL, matA, st00, natS])
      simp (disch := omega) only [go_sem, ↓k_cond, ↓x_idx, ↓k_block, Nat.reduceEqDiff, Nat.reduceBEq, ↓reduceIte, reduceCtorEq, h2, h3, h4, h5]
      (repeat (with_reducible refine Or.inr ?_))
      rw [← hQ]
      exact post_cell1 (id := 0) (x := .agg [.bool (false && decide (0 < (enc B9 (m / g)).length)), natS (m / g), natS (n / g)]) (.inl rfl) rfl o_sRat (by simp [upd_app] <;> omega) (by simp [upd_app]) (by simp [upd_app, natS]) (by simp [ratS, ldA, partA, g_sRat, s_sRat, AV.cells]) (by simp [AV.pure, AV.pureL, natS_pure])
    · (refine callOk_of_wpc (W := fun _ => false) false hm' Tryz.func91 rfl (by kernel_rfl) (Nat.le_of_ble_eq_true rfl) (go_start ?_); generalize hQ : Post Tryz.prog Tryz.f91 _ _ _ _ _ = Q; simp only [stIn, matL, matA, st00, natS])
      simp (disch := omega) only [go_sem, ↓k_cond, ↓x_idx, ↓k_block, Nat.reduceEqDiff, Nat.reduceBEq, ↓reduceIte, reduceCtorEq, h2, h3, h4, h5]
      (repeat (with_reducible refine Or.inr ?_))
      rw [← hQ]
      exact post_cell1 (id := 0) (x := .agg [.bool (true && decide (0 < (enc B9 (m / g)).length)), natS (m / g), natS (n / g)]) (.inl rfl) rfl o_sRat (by simp [upd_app] <;> omega) (by simp [upd_app]) (by simp [upd_app, natS]) (by simp [ratS, ldA, partA, g_sRat, s_sRat, AV.cells]) (by simp [AV.pure, AV.pureL, natS_pure])
attribute [go_sem] w_sMake
theorem w_sInt {n : Int} (h0 : -9223372036854775807 ≤ n) (h1 : n < 9223372036854775808) : CW Tryz.prog 47 [.int .i64 n] (rS 64 (n : Rat)) := by
  refine cw (by kernel_rfl) (by simp [AV.pure, AV.pureL, natA_pure, natI_pure, natS_pure]) (by simp [AV.pure, AV.pureL, natA_pure, natI_pure, natS_pure]) ?_
  rw [rS_eq (fits_int (by omega) (by omega)), qd_int, ratS]
  refine CallOk.res (r := .agg [.bool (decide (n < 0)), natS n.natAbs, .sl 2 [.int .i64 1] [] true]) ?_ (sub_agg (SubL.cons (Sub.refl _) (SubL.cons (Sub.refl _) (SubL.cons (by rw [natS1]; exact sub_sl) .nil))))
  by_cases hn : n < 0
  · have h3 := w_sNat (n := 0 - n) (by omega) (by omega)
    rw [show (0 - n).toNat = n.natAbs by omega] at h3
    simp only [natS] at h3
    (refine callOk_of_wpc (W := fun _ => false) false hm' Tryz.func47 rfl (by kernel_rfl) (Nat.le_of_ble_eq_true rfl) (go_start ?_); generalize hQ : Post Tryz.prog Tryz.f47 _ _ _ _ _ = Q; simp only [stIn, matL, matA, st00])
    simp (disch := omega) only [go_sem, ↓k_cond, ↓x_idx, ↓k_block, Nat.reduceEqDiff, Nat.reduceBEq, ↓reduceIte, reduceCtorEq, h3]
    (repeat (with_reducible refine Or.inr ?_))
    rw [← hQ]
    exact post_cell1 (id := 0) (x := .agg [.bool (decide (n < 0)), natS n.natAbs, .sl 2 [.int .i64 1] [] true]) (.inl rfl) rfl o_sRat (by simp [upd_app] <;> omega) (by simp [upd_app]) (by simp [upd_app, natS, hn]) (by simp [ldA, partA, g_sRat, s_sRat, AV.cells]) (by simp [AV.pure, AV.pureL, natS_pure])
  · have h3 := w_sNat (n := n) (by omega) (by omega)
    rw [show n.toNat = n.natAbs by omega] at h3
    simp only [natS] at h3
    (refine callOk_of_wpc (W := fun _ => false) false hm' Tryz.func47 rfl (by kernel_rfl) (Nat.le_of_ble_eq_true rfl) (go_start ?_); generalize hQ : Post Tryz.prog Tryz.f47 _ _ _ _ _ = Q; simp only [stIn, matL, matA, st00])
    simp (disch := omega) only [go_sem, ↓k_cond, ↓x_idx, ↓k_block, Nat.reduceEqDiff, Nat.reduceBEq, ↓reduceIte, reduceCtorEq, h3]
    (repeat (with_reducible refine Or.inr ?_))
    rw [← hQ]
    exact post_cell1 (id := 0) (x := .agg [.bool (decide (n < 0)), natS n.natAbs, .sl 2 [.int .i64 1] [] true]) (.inl rfl) rfl o_sRat (by simp [upd_app] <;> omega) (by simp [upd_app]) (by simp [upd_app, natS, hn]) (by simp [ldA, partA, g_sRat, s_sRat, AV.cells]) (by simp [AV.pure, AV.pureL, natS_pure])
attribute [go_sem] w_sInt
theorem int_cast_1 : ((1 : Int) : Rat) = 1 := rfl
theorem int_cast_0 : ((0 : Int) : Rat) = 0 := rfl
attribute [go_sem] w_sInt
theorem w_sOne : CW Tryz.prog 85 [] (rS 64 1) := by
  refine cw (by kernel_rfl) (by simp [AV.pure, AV.pureL, natA_pure, natI_pure, natS_pure]) (by simp [AV.pure, AV.pureL, natA_pure, natI_pure, natS_pure]) ?_
  (refine callOk_of_wpc (W := fun _ => false) false hm' Tryz.func85 rfl (by kernel_rfl) (Nat.le_of_ble_eq_true rfl) (go_start ?_); generalize hQ : Post Tryz.prog Tryz.f85 _ _ _ _ _ = Q; simp only [stIn, matL, matA, st00])
  simp (disch := omega) only [go_sem, ↓k_cond, ↓x_idx, ↓k_block, Nat.reduceEqDiff, Nat.reduceBEq, ↓reduceIte, reduceCtorEq]
  (repeat (with_reducible refine Or.inr ?_))
  rw [← hQ]
  exact post_cell1 (id := 0) (x := rS 64 1) (.inl rfl) rfl o_sRat (by simp [upd_app] <;> omega) (by simp [upd_app]) (by simp [upd_app]) ld_sRat (by simp [AV.pure, AV.pureL])
attribute [go_sem] w_sOne
theorem w_sNone : CW Tryz.prog 61 [] (rS 64 0) := by
  refine cw (by kernel_rfl) (by simp [AV.pure, AV.pureL, natA_pure, natI_pure, natS_pure]) (by simp [AV.pure, AV.pureL, natA_pure, natI_pure, natS_pure]) ?_
  (refine callOk_of_wpc (W := fun _ => false) false hm' Tryz.func61 rfl (by kernel_rfl) (Nat.le_of_ble_eq_true rfl) (go_start ?_); generalize hQ : Post Tryz.prog Tryz.f61 _ _ _ _ _ = Q; simp only [stIn, matL, matA, st00])
  simp (disch := omega) only [go_sem, ↓k_cond, ↓x_idx, ↓k_block, Nat.reduceEqDiff, Nat.reduceBEq, ↓reduceIte, reduceCtorEq]
  (repeat (with_reducible refine Or.inr ?_))
  rw [← hQ]
  exact post_cell1 (id := 0) (x := rS 64 0) (.inl rfl) rfl o_sRat (by simp [upd_app] <;> omega) (by simp [upd_app]) (by simp [upd_app]) ld_sRat (by simp [AV.pure, AV.pureL])
attribute [go_sem] w_sNone
theorem w_sZero {m : Nat} {a : Rat} (h : m ≤ 274877906944) : CW Tryz.prog 76 [rS m a] (.bool (decide (a = 0))) := by
  refine cw (by kernel_rfl) (by simp [AV.pure, AV.pureL, natA_pure, natI_pure, natS_pure]) (by simp [AV.pure, AV.pureL, natA_pure, natI_pure, natS_pure]) ?_
  refine callOk_told (x := rS m a) told_rS (by simp) (by simp [AV.pure, AV.pureL, natA_pure, natI_pure, natS_pure]) fun ha => ?_
  have hl := len9 ha.1
  rw [rS_eq ha, ratS, qd]
  by_cases h0 : a.num = 0
  · rw [show decide (a = 0) = true by simpa using num_zero.1 h0, h0]
    (refine callOk_of_wpc (W := fun _ => false) false hm' Tryz.func76 rfl (by kernel_rfl) (Nat.le_of_ble_eq_true rfl) (go_start ?_); generalize hQ : Post Tryz.prog Tryz.f76 _ _ _ _ _ = Q; simp only [stIn, matL, matA, st00, natS])
    simp (disch := omega) only [go_sem, ↓k_cond, ↓x_idx, ↓k_block, Nat.reduceEqDiff, Nat.reduceBEq, ↓reduceIte, reduceCtorEq, Int.natAbs_zero, enc_zero, natA_nil, List.length_nil]
    rw [← hQ]
    exact post_one (.inl rfl) rfl (by simp [upd_app] <;> omega) rfl
  · rw [show decide (a = 0) = false by simpa using fun e => h0 (num_zero.2 e)]
    have hl0 := enc_len_pos B9_gt (show a.num.natAbs ≠ 0 by omega)
    (refine callOk_of_wpc (W := fun _ => false) false hm' Tryz.func76 rfl (by kernel_rfl) (Nat.le_of_ble_eq_true rfl) (go_start ?_); generalize hQ : Post Tryz.prog Tryz.f76 _ _ _ _ _ = Q; simp only [stIn, matL, matA, st00, natS])
    simp (disch := omega) only [go_sem, ↓k_cond, ↓x_idx, ↓k_block, Nat.reduceEqDiff, Nat.reduceBEq, ↓reduceIte, reduceCtorEq]
    rw [← hQ]
    exact post_one (.inl rfl) rfl (by simp [upd_app] <;> omega) rfl
attribute [go_sem] w_sZero
theorem w_sOpposite {m : Nat} {a : Rat} (h : m ≤ 274877906944) : CW Tryz.prog 125 [rS m a] (rS m (-a)) := by
  refine cw (by kernel_rfl) (by simp [AV.pure, AV.pureL, natA_pure, natI_pure, natS_pure]) (by simp [AV.pure, AV.pureL, natA_pure, natI_pure, natS_pure]) ?_
  refine callOk_told (x := rS m a) told_rS (by simp) (by simp [AV.pure, AV.pureL, natA_pure, natI_pure, natS_pure]) fun ha => ?_
  have hl := len9 ha.1
  rw [rS_eq (fits_neg ha), qd_neg, rS_eq ha, ratS, qd, ratS]
  have hx : 0 < (enc B9 a.num.natAbs).length ↔ a.num.natAbs ≠ 0 := ⟨fun h e => by rw [e, enc_zero] at h; simp at h, fun h => enc_len_pos B9_gt h⟩
  by_cases hn : a.num < 0
  · simp only [hn, decide_true]
    (refine callOk_of_wpc (W := fun _ => false) false hm' Tryz.func125 rfl (by kernel_rfl) (Nat.le_of_ble_eq_true rfl) (go_start ?_); generalize hQ : Post Tryz.prog Tryz.f125 _ _ _ _ _ = Q; simp only [stIn, matL, matA, st00, natS])
    simp (disch := omega) only [go_sem, ↓k_cond, ↓x_idx, ↓k_block, Nat.reduceEqDiff, Nat.reduceBEq, ↓reduceIte, reduceCtorEq]
    rw [← hQ]
    exact post_cell1 (id := 1) (x := .agg [.bool false, natS a.num.natAbs, natS a.den]) (.inl rfl) rfl o_sRat (by simp [upd_app] <;> omega) (by simp [upd_app]) (by simp [upd_app, natS]) (by simp [ldA, partA, g_sRat, s_sRat, AV.cells]) (by simp [AV.pure, AV.pureL, natS_pure])
  · simp only [hn, decide_false]
    by_cases h0 : a.num.natAbs = 0
    · rw [show decide (a.num.natAbs ≠ 0) = false by simp [h0]]
      (refine callOk_of_wpc (W := fun _ => false) false hm' Tryz.func125 rfl (by kernel_rfl) (Nat.le_of_ble_eq_true rfl) (go_start ?_); generalize hQ : Post Tryz.prog Tryz.f125 _ _ _ _ _ = Q; simp only [stIn, matL, matA, st00, natS])
      simp (disch := omega) only [go_sem, ↓k_cond, ↓x_idx, ↓k_block, Nat.reduceEqDiff, Nat.reduceBEq, ↓reduceIte, reduceCtorEq]
      rw [← hQ]
      exact post_cell1 (id := 1) (x := .agg [.bool false, natS a.num.natAbs, natS a.den]) (.inl rfl) rfl o_sRat (by simp [upd_app] <;> omega) (by simp [upd_app]) (by simp [upd_app, natS]) (by simp [ldA, partA, g_sRat, s_sRat, AV.cells]) (by simp [AV.pure, AV.pureL, natS_pure])
    · rw [show decide (a.num.natAbs ≠ 0) = true by simp [h0]]
      (refine callOk_of_wpc (W := fun _ => false) false hm' Tryz.func125 rfl (by kernel_rfl) (Nat.le_of_ble_eq_true rfl) (go_start ?_); generalize hQ : Post Tryz.prog Tryz.f125 _ _ _ _ _ = Q; simp only [stIn, matL, matA, st00, natS])
      simp (disch := omega) only [go_sem, ↓k_cond, ↓x_idx, ↓k_block, Nat.reduceEqDiff, Nat.reduceBEq, ↓reduceIte, reduceCtorEq]
      rw [← hQ]
      exact post_cell1 (id := 1) (x := .agg [.bool true, natS a.num.natAbs, natS a.den]) (.inl rfl) rfl o_sRat (by simp [upd_app] <;> omega) (by simp [upd_app]) (by simp [upd_app, natS]) (by simp [ldA, partA, g_sRat, s_sRat, AV.cells]) (by simp [AV.pure, AV.pureL, natS_pure])
attribute [go_sem] w_sOne w_sNone w_sZero w_sOpposite
attribute [go_sem] w_sOpposite
set_option maxHeartbeats 1000000 in
theorem w_sSum {m n : Nat} {a b : Rat} (h : m + n ≤ 274877906944) : CW Tryz.prog 62 [rS m a, rS n b] (rS (m + n + 1) (a + b)) := by
  refine cw (by kernel_rfl) (by simp [AV.pure, AV.pureL, natA_pure, natI_pure, natS_pure]) (by simp [AV.pure, AV.pureL, natA_pure, natI_pure, natS_pure]) ?_
  refine callOk_told (x := rS m a) told_rS (by simp) (by simp [AV.pure, AV.pureL, natA_pure, natI_pure, natS_pure]) fun ha => ?_
  refine callOk_told (x := rS n b) told_rS (by simp) (by simp [AV.pure, AV.pureL, natA_pure, natI_pure, natS_pure]) fun hb => ?_
  rw [rS_eq ha, rS_eq hb, rS_eq (fits_add ha hb)]
  have lx := len9 ha.1
  have ld := len9 ha.2
  have ly := len9 hb.1
  have le := len9 hb.2
  have hd0 := den_ne a
  have he0 := den_ne b
  have ea := self_mkRat a
  have eb := self_mkRat b
  have hxe : (enc B9 (a.num.natAbs * b.den)).length ≤ m + n := len9 (mul_lt_pow ha.1 hb.2)
  have hyd : (enc B9 (b.num.natAbs * a.den)).length ≤ m + n := by rw [Nat.add_comm m n]; exact len9 (mul_lt_pow hb.1 ha.2)
  have hde' : (enc B9 (a.den * b.den)).length ≤ m + n := len9 (mul_lt_pow ha.2 hb.2)
  have hsum : (enc B9 (a.num.natAbs * b.den + b.num.natAbs * a.den)).length ≤ m + n + 1 := by
    refine len9 ?_
    have h1 := mul_lt_pow ha.1 hb.2
    have h2 := mul_lt_pow hb.1 ha.2
    rw [Nat.add_comm n m] at h2
    rw [Nat.pow_succ]; omega
  simp only [qd] at ea eb
  obtain ⟨p, hp⟩ : ∃ p, decide (a.num < 0) = p := ⟨_, rfl⟩
  obtain ⟨q, hq⟩ : ∃ p, decide (b.num < 0) = p := ⟨_, rfl⟩
  obtain ⟨v, hv⟩ : ∃ v, qd (a + b) = v := ⟨_, rfl⟩
  have hr : qd a = (p, a.num.natAbs, a.den) ∧ qd b = (q, b.num.natAbs, b.den) := ⟨by rw [← hp]; rfl, by rw [← hq]; rfl⟩
  rw [hv, hr.1, hr.2]
  rw [hp] at ea; rw [hq] at eb
  clear hp hq hr ha hb
  obtain ⟨x, hx⟩ : ∃ x, a.num.natAbs = x := ⟨_, rfl⟩
  obtain ⟨y, hy⟩ : ∃ x, b.num.natAbs = x := ⟨_, rfl⟩
  obtain ⟨d, hd⟩ : ∃ x, a.den = x := ⟨_, rfl⟩
  obtain ⟨e, he⟩ : ∃ x, b.den = x := ⟨_, rfl⟩
  rw [hx, hd] at ea; rw [hy, he] at eb
  rw [hx] at lx hxe hsum; rw [hd] at ld hyd hde' hd0 hsum; rw [hy] at ly hyd hsum; rw [he] at le hxe hde' he0 hsum
  rw [hx, hy, hd, he]
  clear hx hy hd he
  have hne : ∀ {p q : Bool}, p ≠ q → (p == q) = false := by decide
  have m1 := w_sNatMul (a := x) (b := e) (by omega) (by omega)
  have m2 := w_sNatMul (a := y) (b := d) (by omega) (by omega)
  have m3 := w_sNatMul (a := d) (b := e) (by omega) (by omega)
  have hC0 : d * e ≠ 0 := Nat.mul_ne_zero hd0 he0
  rw [scale_mkRat he0] at ea
  rw [scale_mkRat hd0, Nat.mul_comm e d] at eb
  obtain ⟨k1, k2, k3⟩ := add_low hC0 ea eb
  rw [hv] at k1 k2 k3
  clear ea eb hv
  obtain ⟨X, hX⟩ : ∃ z, x * e = z := ⟨_, rfl⟩
  obtain ⟨Y, hY⟩ : ∃ z, y * d = z := ⟨_, rfl⟩
  obtain ⟨C, hC⟩ : ∃ z, d * e = z := ⟨_, rfl⟩
  rw [hX] at m1 k1 k2 k3 hxe hsum; rw [hY] at m2 k1 k2 k3 hyd hsum; rw [hC] at m3 k1 k2 k3 hC0 hde'
  by_cases hpq : p = q
  · subst hpq
    have h1 := w_sNatAdd (a := X) (b := Y) (by omega) (by omega)
    have h2 := w_sMake (b := p) (m := X + Y) (n := C) (by omega) (by omega) hC0
    rw [k1 rfl]
    simp only [natS, ratS] at m1 m2 m3 h1 h2
    (refine callOk_of_wpc (W := fun _ => false) false hm' Tryz.func62 rfl (by kernel_rfl) (Nat.le_of_ble_eq_true rfl) (go_start ?_); generalize hQ : Post Tryz.prog Tryz.f62 _ _ _ _ _ = Q; simp only [stIn, matL, matA, st00, natS,ratS])
    simp (disch := omega) only [go_sem, ↓k_cond, ↓x_idx, ↓k_block, Nat.reduceEqDiff, Nat.reduceBEq, ↓reduceIte, reduceCtorEq, h1, h2, m1, m2, m3]
    (repeat (with_reducible refine Or.inr ?_))
    rw [← hQ]
    exact post_cell1 (id := 2) (x := ratS (lowQ p (X + Y) C)) (.inl rfl) rfl o_sRat (by simp [upd_app] <;> omega) (by simp [upd_app]) (by simp [upd_app, natS, ratS]) ld_sRat (by simp)
  · have hcx := w_sCmp (a := X) (b := Y) (by omega) (by omega)
    have e1 := hne hpq
    by_cases hxy : Y ≤ X
    · have h1 := w_sNatLess (a := X) (b := Y) (by omega) hxy
      have h2 := w_sMake (b := p) (m := X - Y) (n := C) (Nat.le_trans (enc_len_mono B9_gt (Nat.sub_le X Y)) (by omega)) (by omega) hC0
      have hc0 : 0 ≤ cmpI X Y := cmpI_ge hxy
      rw [k2 hpq hxy]
      simp only [natS, ratS] at m1 m2 m3 hcx h1 h2
      (refine callOk_of_wpc (W := fun _ => false) false hm' Tryz.func62 rfl (by kernel_rfl) (Nat.le_of_ble_eq_true rfl) (go_start ?_); generalize hQ : Post Tryz.prog Tryz.f62 _ _ _ _ _ = Q; simp only [stIn, matL, matA, st00, natS,ratS])
      simp (disch := omega) only [go_sem, ↓k_cond, ↓x_idx, ↓k_block, Nat.reduceEqDiff, Nat.reduceBEq, ↓reduceIte, reduceCtorEq, h1, h2, hcx, e1, m1, m2, m3]
      (repeat (with_reducible refine Or.inr ?_))
      rw [← hQ]
      exact post_cell1 (id := 2) (x := ratS (lowQ p (X - Y) C)) (.inl rfl) rfl o_sRat (by simp [upd_app] <;> omega) (by simp [upd_app]) (by simp [upd_app, natS, ratS]) ld_sRat (by simp)
    · have h1 := w_sNatLess (a := Y) (b := X) (by omega) (by omega)
      have h2 := w_sMake (b := q) (m := Y - X) (n := C) (Nat.le_trans (enc_len_mono B9_gt (Nat.sub_le Y X)) (by omega)) (by omega) hC0
      have hc0 : cmpI X Y < 0 := by rw [cmpI_lt (by omega)]; omega
      rw [k3 hpq (by omega)]
      simp only [natS, ratS] at m1 m2 m3 hcx h1 h2
      (refine callOk_of_wpc (W := fun _ => false) false hm' Tryz.func62 rfl (by kernel_rfl) (Nat.le_of_ble_eq_true rfl) (go_start ?_); generalize hQ : Post Tryz.prog Tryz.f62 _ _ _ _ _ = Q; simp only [stIn, matL, matA, st00, natS,ratS])
      simp (disch := omega) only [go_sem, ↓k_cond, ↓x_idx, ↓k_block, Nat.reduceEqDiff, Nat.reduceBEq, ↓reduceIte, reduceCtorEq, h1, h2, hcx, e1, m1, m2, m3]
      (repeat (with_reducible refine Or.inr ?_))
      rw [← hQ]
      exact post_cell1 (id := 2) (x := ratS (lowQ q (Y - X) C)) (.inl rfl) rfl o_sRat (by simp [upd_app] <;> omega) (by simp [upd_app]) (by simp [upd_app, natS, ratS]) ld_sRat (by simp)
attribute [go_sem] w_sSum
attribute [go_sem] w_sSum
theorem w_sMinus {m n : Nat} {a b : Rat} (h : m + n ≤ 274877906944) : CW Tryz.prog 86 [rS m a, rS n b] (rS (m + n + 1) (a - b)) := by
  refine cw (by kernel_rfl) (by simp [AV.pure, AV.pureL, natA_pure, natI_pure, natS_pure]) (by simp [AV.pure, AV.pureL, natA_pure, natI_pure, natS_pure]) ?_
  rw [Rat.sub_eq_add_neg]
  (refine callOk_of_wpc (W := fun _ => false) false hm' Tryz.func86 rfl (by kernel_rfl) (Nat.le_of_ble_eq_true rfl) (go_start ?_); generalize hQ : Post Tryz.prog Tryz.f86 _ _ _ _ _ = Q; simp only [stIn, matL, matA, st00])
  simp (disch := omega) only [go_sem, ↓k_cond, ↓x_idx, ↓k_block, Nat.reduceEqDiff, Nat.reduceBEq, ↓reduceIte, reduceCtorEq]
  (repeat (with_reducible refine Or.inr ?_))
  rw [← hQ]
  exact post_cell1 (id := 2) (x := rS (m + n + 1) (a + -b)) (.inl rfl) rfl o_sRat (by simp [upd_app] <;> omega) (by simp [upd_app]) (by simp [upd_app]) ld_sRat (by simp [AV.pure, AV.pureL])
theorem parts_of {a : Rat} {m : Nat} (ha : fits m a) : ∃ p x d, qd a = (p, x, d) ∧ d ≠ 0 ∧ (a.num ≠ 0 ↔ x ≠ 0) ∧ x < 2 ^ m ∧ d < 2 ^ m ∧ Nat.gcd x d = 1 :=
  ⟨_, _, _, rfl, a.den_nz, by first | omega | (simp only; omega), ha.1, ha.2, a.reduced⟩
attribute [go_sem] w_sMinus
theorem w_sTimes {m n : Nat} {a b : Rat} (h : m + n ≤ 274877906944) : CW Tryz.prog 46 [rS m a, rS n b] (rS (m + n) (a * b)) := by
  refine cw (by kernel_rfl) (by simp [AV.pure, AV.pureL, natA_pure, natI_pure, natS_pure]) (by simp [AV.pure, AV.pureL, natA_pure, natI_pure, natS_pure]) ?_
  refine callOk_told (x := rS m a) told_rS (by simp) (by simp [AV.pure, AV.pureL, natA_pure, natI_pure, natS_pure]) fun ha => ?_
  refine callOk_told (x := rS n b) told_rS (by simp) (by simp [AV.pure, AV.pureL, natA_pure, natI_pure, natS_pure]) fun hb => ?_
  rw [rS_eq ha, rS_eq hb, rS_eq (fits_mul ha hb (fits_pos ha))]
  obtain ⟨p, x, d, ea, hd0, _, hx, hd, _⟩ := parts_of ha
  obtain ⟨q, y, e, eb, he0, _, hy, he, _⟩ := parts_of hb
  rw [mul_low ea eb hd0 he0, ea, eb]
  have m1 := w_sNatMul (a := x) (b := y) (by have := len9 hx; omega) (by have := len9 hy; omega)
  have m2 := w_sNatMul (a := d) (b := e) (by have := len9 hd; omega) (by have := len9 he; omega)
  have h2 := w_sMake (b := p != q) (m := x * y) (n := d * e) (Nat.le_trans (len9 (mul_lt_pow hx hy)) (by omega)) (Nat.le_trans (len9 (mul_lt_pow hd he)) (by omega)) (Nat.mul_ne_zero hd0 he0)
  rw [bne] at h2 ⊢
  simp only [natS, ratS] at m1 m2 h2
  (refine callOk_of_wpc (W := fun _ => false) false hm' Tryz.func46 rfl (by kernel_rfl) (Nat.le_of_ble_eq_true rfl) (go_start ?_); generalize hQ : Post Tryz.prog Tryz.f46 _ _ _ _ _ = Q; simp only [stIn, matL, matA, st00, natS,ratS])
  simp (disch := omega) only [go_sem, ↓k_cond, ↓x_idx, ↓k_block, Nat.reduceEqDiff, Nat.reduceBEq, ↓reduceIte, reduceCtorEq, h2, m1, m2]
  (repeat (with_reducible refine Or.inr ?_))
  rw [← hQ]
  exact post_cell1 (id := 2) (x := ratS (lowQ (!(p == q)) (x * y) (d * e))) (.inl rfl) rfl o_sRat (by simp [upd_app] <;> omega) (by simp [upd_app]) (by simp [upd_app, natS, ratS]) ld_sRat (by simp)
attribute [go_sem] w_sTimes
theorem w_sOver {m n : Nat} {a b : Rat} (h : m + n ≤ 274877906944) (h0 : b.num ≠ 0) : CW Tryz.prog 120 [rS m a, rS n b] (rS (m + n) (a / b)) := by
  refine cw (by kernel_rfl) (by simp [AV.pure, AV.pureL, natA_pure, natI_pure, natS_pure]) (by simp [AV.pure, AV.pureL, natA_pure, natI_pure, natS_pure]) ?_
  refine callOk_told (x := rS m a) told_rS (by simp) (by simp [AV.pure, AV.pureL, natA_pure, natI_pure, natS_pure]) fun ha => ?_
  refine callOk_told (x := rS n b) told_rS (by simp) (by simp [AV.pure, AV.pureL, natA_pure, natI_pure, natS_pure]) fun hb => ?_
  rw [rS_eq ha, rS_eq hb, rS_eq (fits_over ha hb h0)]
  obtain ⟨p, x, d, ea, hd0, _, hx, hd, _⟩ := parts_of ha
  obtain ⟨q, y, e, eb, he0, hy0, hy, he, _⟩ := parts_of hb
  have hy0 := hy0.1 h0
  rw [over_low ea eb h0, ea, eb]
  have m1 := w_sNatMul (a := x) (b := e) (by have := len9 hx; omega) (by have := len9 he; omega)
  have m2 := w_sNatMul (a := d) (b := y) (by have := len9 hd; omega) (by have := len9 hy; omega)
  have h2 := w_sMake (b := p != q) (m := x * e) (n := d * y) (Nat.le_trans (len9 (mul_lt_pow hx he)) (by omega)) (Nat.le_trans (len9 (mul_lt_pow hd hy)) (by omega)) (Nat.mul_ne_zero hd0 hy0)
  rw [bne] at h2 ⊢
  simp only [natS, ratS] at m1 m2 h2
  (refine callOk_of_wpc (W := fun _ => false) false hm' Tryz.func120 rfl (by kernel_rfl) (Nat.le_of_ble_eq_true rfl) (go_start ?_); generalize hQ : Post Tryz.prog Tryz.f120 _ _ _ _ _ = Q; simp only [stIn, matL, matA, st00, natS,ratS])
  simp (disch := omega) only [go_sem, ↓k_cond, ↓x_idx, ↓k_block, Nat.reduceEqDiff, Nat.reduceBEq, ↓reduceIte, reduceCtorEq, h2, m1, m2]
  (repeat (with_reducible refine Or.inr ?_))
  rw [← hQ]
  exact post_cell1 (id := 2) (x := ratS (lowQ (!(p == q)) (x * e) (d * y))) (.inl rfl) rfl o_sRat (by simp [upd_app] <;> omega) (by simp [upd_app]) (by simp [upd_app, natS, ratS]) ld_sRat (by simp)
attribute [go_sem] w_sOver
theorem qd_nez {a : Rat} {p : Bool} {x d : Nat} (h : qd a = (p, x, d)) : (p = true → x ≠ 0) ∧ (x = 0 → p = false) := by
  have h1 : decide (a.num < 0) = p := congrArg (·.1) h
  have h2 : a.num.natAbs = x := congrArg (·.2.1) h
  have k : p = true → x ≠ 0 := fun hp => by rw [hp] at h1; simp at h1; omega
  exact ⟨k, fun h0 => by cases p <;> simp_all⟩
theorem sign_ne {a : Rat} (h : a.num ≠ 0) : a.num.sign ≠ 0 := fun e => h (Int.sign_eq_zero_iff_zero.1 e)
set_option maxHeartbeats 1000000 in
theorem w_mul {m n : Nat} {a b : Rat} (h : m + n ≤ 274877906944) : CW Tryz.prog 51 [rI m a, rI n b] (rI (m + n) (a * b)) := by
  refine cw (by kernel_rfl) (by simp [AV.pure, AV.pureL, natA_pure, natI_pure, natS_pure]) (by simp [AV.pure, AV.pureL, natA_pure, natI_pure, natS_pure]) ?_
  refine callOk_told (x := rI m a) told_rI (by simp) (by simp [AV.pure, AV.pureL, natA_pure, natI_pure, natS_pure]) fun ha => ?_
  refine callOk_told (x := rI n b) told_rI (by simp) (by simp [AV.pure, AV.pureL, natA_pure, natI_pure, natS_pure]) fun hb => ?_
  have hsa := w_sign (a := a) (m := m) (by omega)
  have hsb := w_sign (a := b) (m := n) (by omega)
  rw [rI_eq ha] at hsa
  rw [rI_eq hb] at hsb
  obtain ⟨p, x, d, ea, hd0, hx0, hx, hd, hg1⟩ := parts_of ha
  obtain ⟨q, y, e, eb, he0, hy0, hy, he, hg2⟩ := parts_of hb
  have hz := w_whole (n := 0) (by omega) (by omega)
  have hz0 : (((0 : Int) : Rat)) = 0 := rfl
  rw [hz0] at hz
  rw [ea] at hsa; rw [eb] at hsb
  by_cases h0 : a.num = 0 ∨ b.num = 0
  · have e0 : a * b = 0 := by rcases h0 with h0 | h0 <;> rw [num_zero.1 h0] <;> simp
    have f0 : fits (m + n) (0 : Rat) := e0 ▸ fits_mul ha hb (fits_pos ha)
    have f64 : fits 64 (0 : Rat) := fits_int (n := 0) (by decide) (by decide)
    have e1 : rI 64 (0 : Rat) = rI (m + n) 0 := by rw [rI_eq f0, rI_eq f64]
    rw [e1] at hz
    rw [e0, rI_eq ha, rI_eq hb, ea, eb]
    obtain ⟨s, hs⟩ : ∃ s, a.num.sign = s := ⟨_, rfl⟩
    obtain ⟨t, ht⟩ : ∃ s, b.num.sign = s := ⟨_, rfl⟩
    have hst : s = 0 ∨ t = 0 := h0.imp (fun h => by rw [← hs, h]; rfl) (fun h => by rw [← ht, h]; rfl)
    rw [hs] at hsa; rw [ht] at hsb
    simp only [ratI, natI] at hsa hsb
    clear e0 e1 f0 f64 h0 hs ht ea eb hx0 hy0
    by_cases hs0 : s = 0
    · subst hs0
      (refine callOk_of_wpcD (W := ⟨fun _ => false, fun r => if r = 3 then some [(1, 10), (3, 10), (6, 10), (8, 10), (1, 11), (3, 11), (6, 11), (8, 11), (10, 11)] else none⟩) false hm' Tryz.func51 rfl (by kernel_rfl) (Nat.le_of_ble_eq_true rfl) (go_start ?_); generalize hQ : Post Tryz.prog Tryz.f51 _ _ _ _ _ = Q; simp only [stIn, matL, matA, st00, natI,ratI])
      simp (disch := omega) only [go_sem, ↓k_cond, ↓x_idx, ↓k_block, Nat.reduceEqDiff, Nat.reduceBEq, ↓reduceIte, reduceCtorEq, ↓k_appE, hsa, hsb, hz]
      (repeat (with_reducible refine Or.inr ?_))
      rw [← hQ]
      exact post_cell1 (id := 2) (x := rI (m + n) 0) (.inl rfl) rfl o_iRat (by simp [upd_app] <;> omega) (by simp [upd_app]) (by simp [upd_app]) ld_iRat (by simp [AV.pure, AV.pureL])
    · have : t = 0 := by omega
      subst this
      (refine callOk_of_wpcD (W := ⟨fun _ => false, fun r => if r = 3 then some [(1, 10), (3, 10), (6, 10), (8, 10), (1, 11), (3, 11), (6, 11), (8, 11), (10, 11)] else none⟩) false hm' Tryz.func51 rfl (by kernel_rfl) (Nat.le_of_ble_eq_true rfl) (go_start ?_); generalize hQ : Post Tryz.prog Tryz.f51 _ _ _ _ _ = Q; simp only [stIn, matL, matA, st00, natI,ratI])
      simp (disch := omega) only [go_sem, ↓k_cond, ↓x_idx, ↓k_block, Nat.reduceEqDiff, Nat.reduceBEq, ↓reduceIte, reduceCtorEq, ↓k_appE, hsa, hsb, hz]
      (repeat (with_reducible refine Or.inr ?_))
      rw [← hQ]
      exact post_cell1 (id := 2) (x := rI (m + n) 0) (.inl rfl) rfl o_iRat (by simp [upd_app] <;> omega) (by simp [upd_app]) (by simp [upd_app]) ld_iRat (by simp [AV.pure, AV.pureL])
  have hs := sign_ne (a := a) (by omega)
  have ht := sign_ne (a := b) (by omega)
  have hxn := hx0.1 (by omega)
  have hyn := hy0.1 (by omega)
  rw [rI_eq (fits_mul ha hb (fits_pos ha)), rI_eq ha, rI_eq hb, mul_low ea eb hd0 he0, cross_low hxn hyn hd0 he0 hg1 hg2, ea, eb]
  generalize a.num.sign = s at hsa hs
  generalize b.num.sign = t at hsb ht
  have lx := len32 hx
  have ld := len32 hd
  have ly := len32 hy
  have le := len32 he
  have l1 := w_low (b := false) (m := x) (n := e) (by omega) (by omega) he0
  have l2 := w_low (b := false) (m := y) (n := d) (by omega) (by omega) hd0
  have k1 := enc_div_len (B := B32) (m := x) (g := Nat.gcd x e) B32_gt
  have k2 := enc_div_len (B := B32) (m := e) (g := Nat.gcd x e) B32_gt
  have k3 := enc_div_len (B := B32) (m := y) (g := Nat.gcd y d) B32_gt
  have k4 := enc_div_len (B := B32) (m := d) (g := Nat.gcd y d) B32_gt
  generalize x / Nat.gcd x e = x' at *
  generalize e / Nat.gcd x e = e' at *
  generalize y / Nat.gcd y d = y' at *
  generalize d / Nat.gcd y d = d' at *
  have m1 := w_natMul (a := x') (b := y') (by omega) (by omega)
  have m2 := w_natMul (a := e') (b := d') (by omega) (by omega)
  rw [Bool.false_and] at l1 l2
  rw [bne]
  simp only [ratI, natI] at hsa hsb l1 l2 m1 m2
  clear k1 k2 k3 k4 lx ld ly le hx hy hd he hx0 hy0 hg1 hg2 ea eb ha hb h0 hz hz0
  (refine callOk_of_wpcD (W := ⟨fun _ => false, fun r => if r = 3 then some [(1, 10), (3, 10), (6, 10), (8, 10), (1, 11), (3, 11), (6, 11), (8, 11), (10, 11)] else none⟩) false hm' Tryz.func51 rfl (by kernel_rfl) (Nat.le_of_ble_eq_true rfl) (go_start ?_); generalize hQ : Post Tryz.prog Tryz.f51 _ _ _ _ _ = Q; simp only [stIn, matL, matA, st00, natI,ratI])
  simp (disch := omega) only [go_sem, ↓k_cond, ↓x_idx, ↓k_block, Nat.reduceEqDiff, Nat.reduceBEq, ↓reduceIte, reduceCtorEq, ↓k_appE, hsa, hsb, l1, l2, m1, m2]
  (repeat (with_reducible refine Or.inr ?_))
  rw [← hQ]
  exact post_cell1 (id := 2) (x := ratI (!(p == q), x' * y', e' * d')) (.inl rfl) rfl o_iRat (by simp [upd_app] <;> omega) (by simp [upd_app]) (by simp [upd_app, natI, ratI]) ld_iRat (by simp)
attribute [go_sem] w_mul
attribute [go_sem] w_mul
theorem w_over {m n : Nat} {a b : Rat} (h : m + n ≤ 274877906944) (h0 : b.num ≠ 0) : CW Tryz.prog 121 [rI m a, rI n b] (rI (m + n) (a / b)) := by
  refine cw (by kernel_rfl) (by simp [AV.pure, AV.pureL, natA_pure, natI_pure, natS_pure]) (by simp [AV.pure, AV.pureL, natA_pure, natI_pure, natS_pure]) ?_
  refine callOk_told (x := rI n b) told_rI (by simp) (by simp [AV.pure, AV.pureL, natA_pure, natI_pure, natS_pure]) fun hb => ?_
  have hm := w_mul (m := m) (n := n) (a := a) (b := b⁻¹) h
  have e1 : qd b = (decide (b.num < 0), b.num.natAbs, b.den) := rfl
  rw [rI_eq (fits_inv hb h0), qd_inv e1 h0, ← Rat.div_def] at hm
  rw [rI_eq hb, e1]
  simp only [ratI, natI] at hm
  (refine callOk_of_wpc (W := fun _ => false) false hm' Tryz.func121 rfl (by kernel_rfl) (Nat.le_of_ble_eq_true rfl) (go_start ?_); generalize hQ : Post Tryz.prog Tryz.f121 _ _ _ _ _ = Q; simp only [stIn, matL, matA, st00, natI,ratI])
  generalize decide (b.num < 0) = q at *
  simp (disch := omega) only [go_sem, ↓k_cond, ↓x_idx, ↓k_block, Nat.reduceEqDiff, Nat.reduceBEq, ↓reduceIte, reduceCtorEq, hm]
  (repeat (with_reducible refine Or.inr ?_))
  rw [← hQ]
  exact post_cell1 (id := 2) (x := rI (m + n) (a / b)) (.inl rfl) rfl o_iRat (by simp [upd_app] <;> omega) (by simp [upd_app]) (by simp [upd_app]) ld_iRat (by simp [AV.pure, AV.pureL])
def cmpR (a b : Rat) : Int := cmpQ (qd a) (qd b)
theorem cmpR_lt {a b : Rat} : cmpR a b < 0 ↔ a < b := (cmp_lt a b).1
theorem cmpR_eq {a b : Rat} : cmpR a b = 0 ↔ a = b := (cmp_lt a b).2
theorem cmpR_gt {a b : Rat} : 0 < cmpR a b ↔ b < a := by
  have h1 := cmpR_lt (a := a) (b := b)
  have h2 := cmpR_eq (a := a) (b := b)
  constructor
  · intro h
    rcases Classical.em (b < a) with h' | h'
    · exact h'
    · have := Rat.not_lt.1 h'
      rcases Rat.le_iff_lt_or_eq.1 this with h3 | h3
      · have := h1.2 h3; omega
      · have := h2.2 h3; omega
  · intro h
    have n1 : ¬ cmpR a b < 0 := fun h' => Rat.not_lt.2 (Rat.le_of_lt h) (h1.1 h')
    have n2 : ¬ cmpR a b = 0 := fun h' => by rw [h2.1 h'] at h; exact Rat.lt_irrefl h
    omega
attribute [go_sem] w_over
theorem w_cmp {m n : Nat} {a b : Rat} (h : m + n ≤ 274877906944) : CW Tryz.prog 170 [rI m a, rI n b] (.int .i64 (cmpR a b)) := by
  refine cw (by kernel_rfl) (by simp [AV.pure, AV.pureL, natA_pure, natI_pure, natS_pure]) (by simp [AV.pure, AV.pureL, natA_pure, natI_pure, natS_pure]) ?_
  refine callOk_told (x := rI m a) told_rI (by simp) (by simp [AV.pure, AV.pureL, natA_pure, natI_pure, natS_pure]) fun ha => ?_
  refine callOk_told (x := rI n b) told_rI (by simp) (by simp [AV.pure, AV.pureL, natA_pure, natI_pure, natS_pure]) fun hb => ?_
  have hsa := w_sign (a := a) (m := m) (by omega)
  have hsb := w_sign (a := b) (m := n) (by omega)
  rw [rI_eq ha] at hsa
  rw [rI_eq hb] at hsb
  have e1 := sgnQ_qd a
  have e2 := sgnQ_qd b
  obtain ⟨p, x, d, ea, hd0, hx0, hx, hd, hg1⟩ := parts_of ha
  obtain ⟨q, y, e, eb, he0, hy0, hy, he, hg2⟩ := parts_of hb
  have b1 : a.num.sign = -1 ∨ a.num.sign = 0 ∨ a.num.sign = 1 := by rcases Int.lt_trichotomy a.num 0 with h | h | h <;> simp [h, Int.sign_eq_neg_one_of_neg, Int.sign_eq_one_of_pos]
  have b2 : b.num.sign = -1 ∨ b.num.sign = 0 ∨ b.num.sign = 1 := by rcases Int.lt_trichotomy b.num 0 with h | h | h <;> simp [h, Int.sign_eq_neg_one_of_neg, Int.sign_eq_one_of_pos]
  rw [ea] at hsa e1; rw [eb] at hsb e2
  rw [cmpR, cmpQ, rI_eq ha, rI_eq hb, ea, eb, e1, e2]
  generalize a.num.sign = s at *
  generalize b.num.sign = t at *
  have m1 := w_natMul (a := x) (b := e) (by have := len32 hx; omega) (by have := len32 he; omega)
  have m2 := w_natMul (a := y) (b := d) (by have := len32 hy; omega) (by have := len32 hd; omega)
  have hc := w_natCmp (a := x * e) (b := y * d) (Nat.lt_of_le_of_lt (len32 (mul_lt_pow hx he)) (by omega)) (Nat.lt_of_le_of_lt (len32 (mul_lt_pow hy hd)) (by omega))
  have hn : cmpN (x * e) (y * d) = cmpI (x * e) (y * d) := by simp [cmpI, cmpN]
  have b3 : cmpI (x * e) (y * d) = -1 ∨ cmpI (x * e) (y * d) = 0 ∨ cmpI (x * e) (y * d) = 1 := by
    rcases Nat.lt_trichotomy (x * e) (y * d) with h | h | h
    · left; exact cmpI_lt h
    · right; left; rw [h]; exact cmpI_eq _
    · right; right; exact cmpI_gt h
  simp only [hn]
  generalize cmpI (x * e) (y * d) = c at *
  simp only [ratI, natI] at hsa hsb m1 m2 hc
  clear hn hx hy hd he hx0 hy0 hg1 hg2 ea eb ha hb hd0 he0 e1 e2
  by_cases hst : s = t
  · subst hst
    rw [if_neg (by simp)]
    cases p
    · rw [if_neg (by simp)]
      (refine callOk_of_wpc (W := fun _ => false) false hm' Tryz.func170 rfl (by kernel_rfl) (Nat.le_of_ble_eq_true rfl) (go_start ?_); generalize hQ : Post Tryz.prog Tryz.f170 _ _ _ _ _ = Q; simp only [stIn, matL, matA, st00, natI,ratI])
      simp (disch := omega) only [go_sem, ↓k_cond, ↓x_idx, ↓k_block, Nat.reduceEqDiff, Nat.reduceBEq, ↓reduceIte, reduceCtorEq, hsa, hsb, m1, m2, hc]
      (repeat (with_reducible refine Or.inr ?_))
      rw [← hQ]
      exact post_one (.inl rfl) rfl (by simp [upd_app] <;> omega) rfl
    · rw [if_pos rfl]
      (refine callOk_of_wpc (W := fun _ => false) false hm' Tryz.func170 rfl (by kernel_rfl) (Nat.le_of_ble_eq_true rfl) (go_start ?_); generalize hQ : Post Tryz.prog Tryz.f170 _ _ _ _ _ = Q; simp only [stIn, matL, matA, st00, natI,ratI])
      simp (disch := omega) only [go_sem, ↓k_cond, ↓x_idx, ↓k_block, Nat.reduceEqDiff, Nat.reduceBEq, ↓reduceIte, reduceCtorEq, hsa, hsb, m1, m2, hc]
      (repeat (with_reducible refine Or.inr ?_))
      rw [← hQ]
      exact post_one (.inl rfl) rfl (by simp [upd_app]) rfl
  · rw [if_pos hst]
    (refine callOk_of_wpc (W := fun _ => false) false hm' Tryz.func170 rfl (by kernel_rfl) (Nat.le_of_ble_eq_true rfl) (go_start ?_); generalize hQ : Post Tryz.prog Tryz.f170 _ _ _ _ _ = Q; simp only [stIn, matL, matA, st00, natI,ratI])
    simp (disch := omega) only [go_sem, ↓k_cond, ↓x_idx, ↓k_block, Nat.reduceEqDiff, Nat.reduceBEq, ↓reduceIte, reduceCtorEq, hsa, hsb]
    (repeat (with_reducible refine Or.inr ?_))
    rw [← hQ]
    exact post_one (.inl rfl) rfl (by simp [upd_app]) rfl
attribute [go_sem] w_over w_cmp
attribute [go_sem] w_cmp
theorem w_isMinus {m : Nat} {a : Rat} (h : m ≤ 274877906944) : CW Tryz.prog 147 [rI m a] (.bool (decide (a < 0))) := by
  refine cw (by kernel_rfl) (by simp [AV.pure, AV.pureL, natA_pure, natI_pure, natS_pure]) (by simp [AV.pure, AV.pureL, natA_pure, natI_pure, natS_pure]) ?_
  rw [← num_neg]
  have b1 : decide (a.num < 0) = decide (a.num.sign < 0) := by
    rcases Int.lt_trichotomy a.num 0 with h | h | h
    · rw [Int.sign_eq_neg_one_of_neg h]; simp [h]
    · rw [h]; rfl
    · rw [Int.sign_eq_one_of_pos h]; exact decide_eq_decide.2 (by omega)
  have hsa := w_sign (a := a) (m := m) (by omega)
  simp only [rI] at hsa
  rw [b1]
  rw [b1] at hsa
  generalize decide (a.num.sign < 0) = p at *
  (refine callOk_of_wpc (W := fun _ => false) false hm' Tryz.func147 rfl (by kernel_rfl) (Nat.le_of_ble_eq_true rfl) (go_start ?_); generalize hQ : Post Tryz.prog Tryz.f147 _ _ _ _ _ = Q; simp only [stIn, matL, matA, st00])
  simp (disch := omega) only [go_sem, ↓k_cond, ↓x_idx, ↓k_block, Nat.reduceEqDiff, Nat.reduceBEq, ↓reduceIte, reduceCtorEq, hsa]
  (repeat (with_reducible refine Or.inr ?_))
  rw [← hQ]
  exact post_one (.inl rfl) rfl (by simp [upd_app] <;> omega) rfl
attribute [go_sem] w_isMinus
attribute [go_sem] int_cast_0 int_cast_1
def sumL (qs : List Rat) : Rat := qs.foldl (· + ·) 0
theorem sumL_snoc {qs : List Rat} {q : Rat} : sumL (qs ++ [q]) = sumL qs + q := by simp [sumL]
theorem sumL_take {qs : List Rat} {i : Nat} {q : Rat} (h : qs[i]? = some q) : sumL (qs.take (i + 1)) = sumL (qs.take i) + q := by rw [List.take_add_one, h]; exact sumL_snoc
attribute [go_sem] w_isMinus
theorem w_sum {m : Nat} {qs : List Rat} (hm : m ≤ 100000) (hl : qs.length ≤ 1000) : CW Tryz.prog 75 [lI m qs] (rI (64 + qs.length * (m + 1)) (sumL qs)) := by
  refine cw (by kernel_rfl) (by simp [AV.pure, AV.pureL, natA_pure, natI_pure, natS_pure]) (by simp [AV.pure, AV.pureL, natA_pure, natI_pure, natS_pure]) ?_
  obtain ⟨n, hn⟩ : ∃ n, qs.length = n := ⟨_, rfl⟩
  rw [hn] at hl ⊢
  (refine callOk_of_wpc (W := fun _ => false) false hm' Tryz.func75 rfl (by kernel_rfl) (Nat.le_of_ble_eq_true rfl) (go_start ?_); generalize hQ : Post Tryz.prog Tryz.f75 _ _ _ _ _ = Q; simp only [stIn, matL, matA, st00])
  simp (disch := omega) only [go_sem, ↓k_cond, ↓x_idx, ↓k_block, Nat.reduceEqDiff, Nat.reduceBEq, ↓reduceIte, reduceCtorEq, hn]
  (repeat (with_reducible refine Or.inr ?_))
  refine k_loop (fun (i : Nat) st => st.fr 0 = lI m qs ∧ st.fr 2 = .ptr 0 1 0 0 ∧ st.fr 3 = .ptr 1 1 0 0 ∧ st.fr 7 = lI m qs ∧ st.fr 8 = .int .i64 n ∧ st.fr 9 = .int .i64 i ∧ st.h 0 = ⟨52, [.agg [.bool false, .nil, .nil]], true, false, true⟩ ∧ st.h 1 = ⟨52, [rI (64 + i * (m + 1)) (sumL (qs.take i))], true, false, true⟩ ∧ 1 < st.nx ∧ (i ≤ n)) (fun (i : Nat) => n - i) (0)
    ⟨(by simp [upd_app, sumL] <;> omega), (by simp [upd_app, sumL] <;> omega), (by simp [upd_app, sumL] <;> omega), (by simp [upd_app, sumL] <;> omega), (by simp [upd_app, sumL] <;> omega), (by simp [upd_app, sumL] <;> omega), (by simp [upd_app, sumL] <;> omega), (by simp [upd_app, sumL] <;> omega), (by simp <;> omega), by omega⟩ ?_
  rintro i ⟨fr, h, nx⟩ ⟨g0, g2, g3, g7, g8, g9, hm0, hm1, hnx, hi⟩ J hJ
  simp only at g0 g2 g3 g7 g8 g9 hm0 hm1 hnx
  by_cases hin : i < n
  · obtain ⟨q, hq⟩ := get_some (xs := qs) (i := i) (by omega)
    have hb : i * (m + 1) ≤ 1000 * 100001 := Nat.mul_le_mul (by omega) (by omega)
    have e : 64 + (i + 1) * (m + 1) = 64 + i * (m + 1) + m + 1 := by rw [Nat.add_mul]; omega
    have key := hJ (i + 1)
    rw [sumL_take hq, e] at key
    simp (disch := omega) only [go_sem, ↓k_cond, ↓x_idx, ↓k_block, Nat.reduceEqDiff, Nat.reduceBEq, ↓reduceIte, reduceCtorEq, g0, g2, g3, g7, g8, g9, hm0, hm1, hq, hn]
    (repeat (with_reducible refine Or.inr ?_))
    exact key _ ⟨(by simp [upd_app, g0] <;> omega), (by simp [upd_app, g2] <;> omega), (by simp [upd_app, g3] <;> omega), (by simp [upd_app, g7] <;> omega), (by simp [upd_app, g8] <;> omega), (by simp [upd_app] <;> omega), (by simp [upd_app, hm0] <;> omega), (by simp [upd_app] <;> omega), (by simp <;> omega), hin⟩ (by omega)
  · obtain rfl : i = n := by omega
    rw [List.take_of_length_le (by omega)] at hm1
    simp (disch := omega) only [go_sem, ↓k_cond, ↓x_idx, ↓k_block, Nat.reduceEqDiff, Nat.reduceBEq, ↓reduceIte, reduceCtorEq, g0, g2, g3, g7, g8, g9, hm0, hm1, hn]
    (repeat (with_reducible refine Or.inr ?_))
    rw [← hQ]
    exact post_cell1 (id := 0) (x := rI (64 + i * (m + 1)) (sumL qs)) (.inl rfl) rfl o_iRat (by simp [upd_app, g2] <;> omega) (by simp [upd_app]) (by simp [upd_app]) ld_iRat (by simp [AV.pure, AV.pureL])
attribute [go_sem] w_sum
mutual
theorem rep_cut {P : Program} {E E' : Env} {h : Nat → Blk} {nx : Nat} (hE : E.nx = nx) (hh : ∀ i, i < nx → E'.h i = h i) : ∀ (x : AV) (v0 v : Value), rep P E x v0 → rep P E' x v → rep P ⟨E'.w, E'.I, E'.m, h, nx⟩ x v
  | .undef, _, _, _, _ => by simp [rep]
  | .bool b, _, v, _, k => by simpa [rep] using k
  | .int i n, _, v, _, k => by simpa [rep] using k
  | .str s, _, v, _, k => by simpa [rep] using k
  | .nil, _, v, _, k => by simpa [rep] using k
  | .sl t xs sp ex, v0, v, k0, k => by
    simp only [rep] at k0 k ⊢
    obtain ⟨_, _, _, _, _, _, ws, us', m4, m5, _⟩ := k0
    obtain ⟨a, cap, h1, h2, h3, h7, vs, us, h4, h5, h6⟩ := k
    exact ⟨a, cap, h1, h2, h3, h7, vs, us, repL_cut hE hh xs ws vs m4 h4, repL_cut hE hh sp us' us m5 h5, h6⟩
  | .ref id n off len, v0, v, k0, k => by
    simp only [rep] at k0 k ⊢
    have hlt : id < nx := by rw [← hE]; exact k0.1
    obtain ⟨_, h2, h3⟩ := k
    rw [hh id hlt] at h2 h3
    exact ⟨hlt, h2, h3⟩
  | .own .., _, _, _, k => by simp [rep] at k
  | .ptr id n i j, v0, v, k0, k => by
    simp only [rep] at k0 k ⊢
    have hlt : id < nx := by rw [← hE]; exact k0.1
    obtain ⟨_, h2, h3⟩ := k
    rw [hh id hlt] at h2 h3
    exact ⟨hlt, h2, h3⟩
  | .cptr t x j, v0, v, k0, k => by
    simp only [rep] at k0 k ⊢
    obtain ⟨_, _, _, _, u0, _, _, _, m4, _⟩ := k0
    obtain ⟨b, off, c, fz, u, h1, h2, h3, h4, h6, h5⟩ := k
    exact ⟨b, off, c, fz, u, h1, h2, h3, rep_cut hE hh x u0 u m4 h4, h6, h5⟩
  | .fn f first cap, v0, v, k0, k => by
    simp only [rep] at k0 k ⊢
    obtain ⟨ws, us', _, m2, m3⟩ := k0
    obtain ⟨vs, us, h1, h2, h3⟩ := k
    exact ⟨vs, us, h1, repL_cut hE hh first ws vs m2 h2, repL_cut hE hh cap us' us m3 h3⟩
  | .agg cs, v0, v, k0, k => by
    simp only [rep] at k0 k ⊢
    obtain ⟨ws, _, m2⟩ := k0
    obtain ⟨vs, h1, h2⟩ := k
    exact ⟨vs, h1, repL_cut hE hh cs ws vs m2 h2⟩
  | .tup xs, v0, v, k0, k => by
    simp only [rep] at k0 k ⊢
    obtain ⟨ws, _, m2⟩ := k0
    obtain ⟨vs, h1, h2⟩ := k
    exact ⟨vs, h1, repL_cut hE hh xs ws vs m2 h2⟩
theorem repL_cut {P : Program} {E E' : Env} {h : Nat → Blk} {nx : Nat} (hE : E.nx = nx) (hh : ∀ i, i < nx → E'.h i = h i) : ∀ (xs : List AV) (vs0 vs : List Value), repL P E xs vs0 → repL P E' xs vs → repL P ⟨E'.w, E'.I, E'.m, h, nx⟩ xs vs
  | [], _, vs, _, k => by simpa [repL] using k
  | x :: xs, vs0, vs, k0, k => by
    simp only [repL] at k0 k ⊢
    obtain ⟨v0, us0, _, m2, m3⟩ := k0
    obtain ⟨v, us, h1, h2, h3⟩ := k
    exact ⟨v, us, h1, rep_cut hE hh x v0 v m2 h2, repL_cut hE hh xs us0 us m3 h3⟩
end

def PostF (P : Program) (fn : Func) (x : AV) (h : Nat → Blk) (nx : Nat) (e : Ex) (st : St) : Prop :=
  (match e with | .exit _ => False | _ => True) ∧ resV P st fn.results.toList = some x ∧ (∀ i, i < nx → st.h i = h i) ∧ nx ≤ st.nx

theorem inOkF_of_wpc {P : Program} {W : WP} {f : FuncId} {fn : Func} {c : Code} {args : List AV} {x : AV} {fr : Nat → AV} {h : Nat → Blk} {nx : Nat} (hm : P.follows .mixedOrders = true) (hf : P.funcs[f]? = some fn) (hb : fn.body = some c)
    (hok : codeOk W fn.ntmps c = true) (hn : args.length ≤ fn.ntmps) (hp : x.pure = true) (hw : wpc P W c ⟨fun i => args.getD i .undef, h, nx⟩ (PostF P fn x h nx)) : InOk P ⟨fr, h, nx⟩ f args x ⟨fr, h, nx⟩ := by
  refine ⟨rfl, fun E vs hE hh hnx has => ?_⟩
  simp only at hh hnx
  have hargl : args.length = vs.length := (repL_length has).symm
  refine calls_of_wp hf hb ?_
  have hR : Rel P E ⟨fun i => args.getD i .undef, h, nx⟩ { tmps := vs.toArray ++ Array.replicate (fn.ntmps - vs.toArray.size) undef, defers := [] } := by
    refine ⟨hE, hh, hnx, fun t => ?_⟩
    by_cases ht : t < args.length
    · have h1 : args[t]? = some (args[t]'(by omega)) := List.getElem?_eq_getElem (by omega)
      obtain ⟨v, hv, hr⟩ := repL_get has t _ h1
      simp only [List.getD_eq_getElem?_getD, h1]
      rw [Array.getD_eq_getD_getElem?, Array.getElem?_append_left (by simp; omega)]
      have : vs.toArray[t]? = some v := by simpa using hv
      rw [this]; exact hr
    · simp only [List.getD_eq_getElem?_getD]
      rw [List.getElem?_eq_none (by omega)]
      simp [rep]
  have hsize : (vs.toArray ++ Array.replicate (fn.ntmps - vs.toArray.size) undef).size = fn.ntmps := by simp; omega
  refine wp_mono (wpc_sound hm c hok _ _ _ E hw hR hsize rfl) fun e a' w' hq => ?_
  obtain ⟨y, st', E', rfl, ⟨hy, hv, h1, h2⟩, rfl, hR', hn', hd', hle, hgo⟩ := hq
  obtain ⟨u, hres, hru⟩ := resV_sound hR' hv
  have hold : ∀ i, i < nx → E'.h i = h i := fun i hi => by rw [← hR'.h]; exact h1 i hi
  obtain ⟨E2, hE2⟩ : ∃ E2 : Env, E2 = ⟨E'.w, E'.I, E'.m, h, nx⟩ := ⟨_, rfl⟩
  have hmm : ∀ id, (h id).lv = true → id < nx ∧ E'.m id = E.m id := by
    intro id hl
    have hB := hE.blk id (by rw [← hh]; exact hl)
    have hlt : id < nx := by rw [hnx]; exact hB.lt
    have e1 : E'.h id = E.h id := by rw [hold id hlt, hh]
    obtain ⟨_, _, _, k4⟩ := hle.prv id (by rw [← hnx]; exact hlt) (E.h id).xs.length (Nat.le_refl _) (by rw [e1, ← hh]; exact hl) (by rw [e1])
    exact ⟨hlt, k4⟩
  have hLe : E.Le E2 := by
    rw [hE2]
    refine ⟨by rw [hnx]; exact Nat.le_refl _, hle.imm, fun id _ => by rw [hh]; exact Nat.le_refl _, fun id hid n hn k1 k2 => ?_⟩
    simp only at k1 k2 ⊢
    rw [hh] at k1 k2 ⊢
    exact ⟨k1, k2, rfl, (hmm id (by rw [hh]; exact k1)).2⟩
  have hOk : Ok P E2 := by
    rw [hE2]
    refine ⟨fun id hl => ?_, fun i j hi hj e => ?_, hR'.ok.imm, hR'.ok.tab⟩
    · simp only at hl
      obtain ⟨hlt, hm1⟩ := hmm id hl
      have e1 := hold id hlt
      have hB := hR'.ok.blk id (by rw [e1]; exact hl)
      have hB0 := hE.blk id (by rw [← hh]; exact hl)
      obtain ⟨c, ws, g1, g2, g3, g4⟩ := hB.at_
      obtain ⟨c0, ws0, _, g02, _, _⟩ := hB0.at_
      rw [e1] at g1 g2 g3 g4
      rw [← hh] at g02
      exact ⟨hlt, by have := hB.gr; rw [e1] at this; exact this, by have := hB.ex; rw [e1] at this; exact this, by have := hB.le; rw [e1] at this; exact this, by have := hB.cl; rw [e1] at this; exact this, hB.dark,
        c, ws, g1, repL_cut hnx.symm hold _ ws0 ws g02 g2, g3, g4⟩
    · simp only at hi hj e
      exact hR'.ok.inj i j (by rw [hold i (hmm i hi).1]; exact hi) (by rw [hold j (hmm j hj).1]; exact hj) e
  have hGo : Goes P E E2 := by
    rw [hE2]
    refine ⟨hgo.os, hgo.tape, hgo.output, hgo.size, hgo.keep, hgo.part, fun id hl => ?_, hgo.dark, by rw [hnx]; exact Nat.le_refl _, fun id hid => by rw [hh]⟩
    simp only at hl ⊢
    obtain ⟨hlt, hm1⟩ := hmm id hl
    exact .inl ⟨by rw [← hh]; exact hl, hm1, by rw [hh], by simp only [Env.lim, hm1, hh]⟩
  have hru2 : rep P E2 x u := by
    rw [hE2]
    exact (show repL P ⟨E'.w, E'.I, E'.m, h, nx⟩ [x] [u] from repL_pure (E := E') (E' := ⟨E'.w, E'.I, E'.m, h, nx⟩) (fun b hb => ⟨hb, rfl⟩) [x] [u] (by simp [AV.pureL, hp]) (by simp [repL, hru])) |> fun k => by simpa [repL] using k
  have hend : bodyPost P fn (fun e w' => ∃ v E', e = .returned v ∧ E'.w = w' ∧ E'.h = h ∧ E'.nx = nx ∧ E.Le E' ∧ Ok P E' ∧ Goes P E E' ∧ rep P E' x v) .ret a' E'.w :=
    ⟨hd', u, hres, u, E2, rfl, by rw [hE2], by rw [hE2], by rw [hE2], hLe, hOk, hGo, hru2⟩
  cases y with
  | normal => exact hend
  | ret => exact hend
  | exit i => exact hy.elim

abbrev CP (P : Program) (g : FuncId) (T : Nat) (v : AV) (al : List AV) (r : AV) : Prop :=
  ∀ (fr : Nat → AV) (h : Nat → Blk) (nx id : Nat), h id = ⟨T, [v], true, false, true⟩ → id < nx → InOk P ⟨fr, h, nx⟩ g (.ptr id 1 0 0 :: al) r ⟨fr, h, nx⟩
abbrev CPE (P : Program) (g : FuncId) (T : Nat) (v : AV) (al : List AV) (r : AV) : Prop :=
  ∀ (W : FuncId → Bool) (d : Option Tmp) (ops : Array Oper) (os : List Oper) (fr : Nat → AV) (h : Nat → Blk) (nx id : Nat) (K : St → Prop) (t : TokC ⟨d, ops, os, fr, h, nx, K⟩), h id = ⟨T, [v], true, false, true⟩ → id < nx →
    callW P W g (.ptr id 1 0 0 :: al) ⟨d, ops, os, fr, h, nx, K⟩ t = (Hid (callW P W g (.ptr id 1 0 0 :: al) ⟨d, ops, os, fr, h, nx, K⟩ .mk) .mk ∨ wpos P W ops os (St.put ⟨fr, h, nx⟩ d r) K)
theorem cpe {P : Program} {g : FuncId} {T : Nat} {v : AV} {al : List AV} {r : AV} (hc : CP P g T v al r) (hg : callable P g = true) : CPE P g T v al r := by
  intro W d ops os fr h nx id K t h1 h2
  cases t
  exact orHid fun hk => ⟨hg, r, ⟨fr, h, nx⟩, hc fr h nx id h1 h2, fun _ => ⟨rfl, rfl⟩, fun _ hp => by simp [AV.pureL, AV.pure] at hp, hk⟩
theorem postF_one {P : Program} {fn : Func} {t : Tmp} {x : AV} {st : St} {e : Ex} {h : Nat → Blk} {nx : Nat} (he : e = .ret ∨ e = .normal) (hr : fn.results.toList = [.tmp t]) (hv : st.fr t = x) (h1 : ∀ i, i < nx → st.h i = h i) (h2 : nx ≤ st.nx) : PostF P fn x h nx e st :=
  ⟨by rcases he with rfl | rfl <;> trivial, by rw [hr]; simp [resV, resL, resA, hv], h1, h2⟩
theorem postF_cell {P : Program} {fn : Func} {t u : Tmp} {T id : Nat} {x r s : AV} {st : St} {e : Ex} {h : Nat → Blk} {nx : Nat} (he : e = .ret ∨ e = .normal) (hr : fn.results.toList = [.cell t T, .tmp u]) (hok : okT P T = true) (hv : st.fr t = .ptr id 1 0 0) (hlv : (st.h id).lv = true) (hx : (st.h id).xs = [x])
    (hl : ldA P T x 0 = some r) (hw : st.fr u = s) (h1 : ∀ i, i < nx → st.h i = h i) (h2 : nx ≤ st.nx) : PostF P fn (.tup [r, s]) h nx e st :=
  ⟨by rcases he with rfl | rfl <;> trivial, by rw [hr]; simp [resV, resL, resA, hv, hw, hok, loadA, hlv, hx, hl], h1, h2⟩
theorem postF_cell1 {P : Program} {fn : Func} {t : Tmp} {T id : Nat} {x r : AV} {st : St} {e : Ex} {h : Nat → Blk} {nx : Nat} (he : e = .ret ∨ e = .normal) (hr : fn.results.toList = [.cell t T]) (hok : okT P T = true) (hv : st.fr t = .ptr id 1 0 0) (hlv : (st.h id).lv = true) (hx : (st.h id).xs = [x])
    (hl : ldA P T x 0 = some r) (h1 : ∀ i, i < nx → st.h i = h i) (h2 : nx ≤ st.nx) : PostF P fn r h nx e st :=
  ⟨by rcases he with rfl | rfl <;> trivial, by rw [hr]; simp [resV, resL, resA, hv, hok, loadA, hlv, hx, hl], h1, h2⟩
theorem x_nilCheck {P : Program} {W : FuncId → Bool} {ops : Array Oper} {os : List Oper} {fr : Nat → AV} {h : Nat → Blk} {nx : Nat} {K : St → Prop} {d t : Nat} {p : String} {af : Array Edge} {x : Operand} : wpos P W ops (⟨some d, .nilCheck x, t, p, af, none⟩ :: os) ⟨fr, h, nx⟩ K = match evA fr x with
    | .ptr id n i j => wpos P W ops os ⟨upd fr d (.ptr id n i j), h, nx⟩ K
    | .cptr t v j => wpos P W ops os ⟨upd fr d (.cptr t v j), h, nx⟩ K
    | _ => False := by
  rw [x_plain (by intros; simp)]; simp only [evalOp, ev_mk]; cases evA fr x <;> rfl
attribute [go_sem ↓] x_nilCheck
end Go.Proofs.YtfhpphmdpjebcaaGreatDoor
