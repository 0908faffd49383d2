/- Ground 10. -/
import Derived.Test.YtdljcbbodihagaaGreatDoorM9

set_option linter.unusedVariables false
set_option linter.unusedSimpArgs false
set_option maxRecDepth 100000
namespace Go.Proofs.YtdljcbbodihagaaGreatDoor
open Go

theorem w_sDigit {xs : List Nat} {i : Nat} (h : xs.length < 9223372036854775808) : CW Tryz.prog 79 [.sl 2 (natA .i64 xs) [] false, .int .i64 i] (.int .i64 (xs.getD i 0 : Nat)) := cw (by kernel_rfl) (by simp [AV.pure, AV.pureL]) (by simp [AV.pure, AV.pureL]) (s_Digit hm' xs i h)
attribute [go_sem] w_sDigit
theorem addS_step {B i x y c e c' A D V : Nat} (hv : A + V = D + B ^ i * c) (h : e + B * c' = x + y + c) : (A + B ^ i * x) + (V + B ^ i * y) = (D + B ^ i * e) + B ^ (i + 1) * c' := by
  have := congrArg (B ^ i * ·) h
  simp only [Nat.mul_add, ← Nat.mul_assoc, ← Nat.pow_add_one] at this
  omega
theorem val_snoc {B : Nat} {xs : List Nat} {e : Nat} : val B (xs ++ [e]) = val B xs + B ^ xs.length * e := by rw [val_append]; simp [val]
theorem enc_of {B : Nat} (hB : 1 < B) {ds : List Nat} {v : Nat} (hq : ∀ d ∈ ds, d < B) (hv : val B ds = v) (hl : ds.length ≤ (enc B v).length) : ds = enc B v := by
 have h1 := trimZ_enc hB hq
 rw [hv] at h1
 have h2 := trimZ_pre ds
 rw [h1, List.take_of_length_le hl] at h2
 exact h2
attribute [go_sem] w_sDigit
theorem w_sNatAdd {a b : Nat} (ha : (enc B9 a).length ≤ 1099511627776) (hb : (enc B9 b).length ≤ 1099511627776) : CW Tryz.prog 66 [natS a, natS b] (natS (a + b)) := by
  refine cw (by kernel_rfl) (by simp [AV.pure, AV.pureL]) (by simp [AV.pure, AV.pureL]) ?_
  (refine callOk_of_wpc (W := fun _ => false) false hm' Tryz.func66 rfl (by kernel_rfl) (Nat.le_of_ble_eq_true rfl) (go_start ?_); generalize hQ : Post Tryz.prog Tryz.f66 _ _ _ _ _ = Q; simp only [stIn, matL, matA, st00, natS])
  have hB : B9 = 1000000000 := rfl
  obtain ⟨n, hn⟩ : ∃ n, (enc B9 a).length = n := ⟨_, rfl⟩
  obtain ⟨l, hl⟩ : ∃ l, (enc B9 b).length = l := ⟨_, rfl⟩
  have hna : n ≤ (enc B9 (a + b)).length := by rw [← hn]; exact enc_len_mono B9_gt (by omega)
  have hlb : l ≤ (enc B9 (a + b)).length := by rw [← hl]; exact enc_len_mono B9_gt (by omega)
  rw [hn] at ha; rw [hl] at hb
  simp (disch := omega) only [go_sem, Nat.reduceEqDiff, Nat.reduceBEq, ↓reduceIte, reduceCtorEq]
  refine k_loop (fun (⟨i, c, ds⟩ : Nat × Nat × List Nat) st => st.fr 0 = natS a ∧ st.fr 1 = natS b ∧ st.fr 5 = .ref 0 i 0 i ∧ st.fr 6 = .int .i64 c ∧ st.fr 7 = .int .i64 i ∧ (∃ ex, st.h 0 = ⟨2, natA .i64 ds, ex, true, true⟩) ∧ 0 < st.nx ∧ (ds.length = i) ∧ (i + c ≤ max n l + 1) ∧ (c ≤ 1) ∧ (∀ d ∈ ds, d < B9) ∧ (i ≤ (enc B9 (a + b)).length) ∧ (val B9 ((enc B9 a).take i) + val B9 ((enc B9 b).take i) = val B9 ds + B9 ^ i * c)) (fun (⟨i, c, ds⟩ : Nat × Nat × List Nat) => 2 * (max n l - i) + c) (0, 0, [])
    ⟨(by simp [upd_app, natS, natA] <;> omega), (by simp [upd_app, natS, natA] <;> omega), (by simp [upd_app, natS, natA] <;> omega), (by simp [upd_app, natS, natA] <;> omega), (by simp [upd_app, natS, natA] <;> omega), ⟨true, (by simp [upd_app, natS, natA] <;> omega)⟩, (by simp <;> omega), rfl, by simp, by simp, by simp, by simp, by simp [val]⟩ ?_
  rintro ⟨i, c, ds⟩ ⟨fr, h, nx⟩ ⟨g0, g1, g5, g6, g7, ⟨ex0, hm0⟩, hnx, hlen, him, hc, hq, hk, hv⟩ J hJ
  simp only at g0 g1 g5 g6 g7 hm0 hnx
  simp only [natS] at g0 g1
  have hdl : (natA .i64 ds).length = i := by rw [natA_length, hlen]
  by_cases hgo : i < n ∨ i < l ∨ 0 < c
  · obtain ⟨x, hx⟩ : ∃ x, (enc B9 a).getD i 0 = x := ⟨_, rfl⟩
    obtain ⟨y, hy⟩ : ∃ y, (enc B9 b).getD i 0 = y := ⟨_, rfl⟩
    have hxB : x < B9 := by rw [← hx]; exact getD_lt B9_gt (enc_lt B9_gt a) i
    have hyB : y < B9 := by rw [← hy]; exact getD_lt B9_gt (enc_lt B9_gt b) i
    have hx0 : n ≤ i → x = 0 := fun h => by rw [← hx]; exact getD_none (by omega)
    have hy0 : l ≤ i → y = 0 := fun h => by rw [← hy]; exact getD_none (by omega)
    have hvx := val_take_getD (B := B9) (xs := enc B9 a) (i := i)
    have hvy := val_take_getD (B := B9) (xs := enc B9 b) (i := i)
    rw [hx] at hvx; rw [hy] at hvy
    obtain ⟨s1, s2, s3⟩ := add_step B9_gt hc hxB hyB
    have hk' : i + 1 ≤ (enc B9 (a + b)).length := by
      rcases hgo with h | h | h
      · omega
      · omega
      · by_cases h2 : i < n ∨ i < l
        · omega
        · rw [List.take_of_length_le (by omega), List.take_of_length_le (by omega), val_enc B9_gt, val_enc B9_gt] at hv
          obtain rfl : c = 1 := by omega
          exact enc_len_ge B9_gt (by omega)
    have key : ∀ st : St, st.fr 0 = natS a → st.fr 1 = natS b → st.fr 5 = .ref 0 (i + 1) 0 (i + 1) → st.fr 6 = .int .i64 (((x + y + c) / 1000000000 : Nat) : Int) → st.fr 7 = .int .i64 ((i + 1 : Nat) : Int) →
        (∃ ex, st.h 0 = ⟨2, natA .i64 (ds ++ [(x + y + c) % 1000000000]), ex, true, true⟩) → 0 < st.nx → J st := by
      intro st k0 k1 k5 k6 k7 kh kn
      rw [show c + x + y = x + y + c by omega] at s1 s2 s3
      have hlast : ¬ i < max n l → (x + y + c) / B9 = 0 := fun h => by rw [hx0 (by omega), hy0 (by omega), Nat.div_eq_of_lt (by simp only [hB]; omega)]
      refine hJ (i + 1, (x + y + c) / B9, ds ++ [(x + y + c) % B9]) st ⟨k0, k1, k5, k6, k7, kh, kn, by simp [hlen], ?_, s1, ?_, hk', ?_⟩ ?_
      · have : (x + y + c) / B9 ≤ 1 := s1
        by_cases h2 : i < max n l
        · omega
        · rw [hlast h2]; omega
      · intro d hd
        rcases List.mem_append.1 hd with h | h
        · exact hq d h
        · rw [List.mem_singleton.1 h]; exact s2
      · try simp only
        rw [hvx, hvy, val_snoc, hlen]
        exact addS_step hv s3
      · try simp only
        have : (x + y + c) / B9 ≤ 1 := s1
        by_cases h2 : i < max n l
        · omega
        · rw [hlast h2]; omega
    clear hJ hv hvx hvy hq hk hk' s1 s2 s3 hx0 hy0
    rw [hB] at hxB hyB
    have n1 : (0 = nx) = False := by simp; omega
    have n2 : (nx = 0) = False := by simp; omega
    rcases (by omega : i < n ∨ (¬ i < n ∧ i < l) ∨ (¬ i < n ∧ ¬ i < l ∧ 0 < c)) with h1 | h1 | h1
    all_goals
      simp (disch := omega) only [go_sem, Nat.reduceEqDiff, Nat.reduceBEq, ↓reduceIte, reduceCtorEq, g0, g1, g5, g6, g7, hm0, hdl, hx, hy, hl, hn, reach, n1, n2]
      (repeat (with_reducible refine Or.inr ?_))
      exact key _ (by simp [upd_app, g0, natS] <;> omega) (by simp [upd_app, g1, natS] <;> omega) (by simp [upd_app] <;> omega) (by simp [upd_app] <;> omega) (by simp [upd_app] <;> omega) ⟨false, by simp [upd_app, n1, n2, hm0, natA]⟩ (by simp <;> omega)
  · rw [List.take_of_length_le (by omega), List.take_of_length_le (by omega), val_enc B9_gt, val_enc B9_gt] at hv
    obtain rfl : c = 0 := by omega
    have hde := enc_of B9_gt hq (show val B9 ds = a + b by simp at hv; omega) (by omega)
    clear hJ
    simp (disch := omega) only [go_sem, Nat.reduceEqDiff, Nat.reduceBEq, ↓reduceIte, reduceCtorEq, g0, g1, g5, g6, g7, hl, hn]
    rw [← hQ]
    exact post_frozen (off := 0) (len := i) (n := i) (id := 0) (.inl rfl) rfl (by simp [upd_app] <;> omega) (by simp [hm0]) (by simp [hm0, natA_length, hlen]) (by simp [hm0]) (by omega) (Nat.zero_le _) (by simp only [hm0, List.drop_zero, natA_take]; rw [List.take_of_length_le (by omega), hde]) (natA_pure _ _)
attribute [go_sem] w_sNatAdd
theorem w_sNatLess {a b : Nat} (ha : (enc B9 a).length ≤ 1099511627776) (hab : b ≤ a) : CW Tryz.prog 67 [natS a, natS b] (natS (a - b)) := by
  refine cw (by kernel_rfl) (by simp [AV.pure, AV.pureL]) (by simp [AV.pure, AV.pureL]) ?_
  (refine callOk_of_wpc (W := fun g => g == 63) false hm' Tryz.func67 rfl (by kernel_rfl) (Nat.le_of_ble_eq_true rfl) (go_start ?_); generalize hQ : Post Tryz.prog Tryz.f67 _ _ _ _ _ = Q; simp only [stIn, matL, matA, st00, natS])
  have hB : B9 = 1000000000 := rfl
  obtain ⟨n, hn⟩ : ∃ n, (enc B9 a).length = n := ⟨_, rfl⟩
  obtain ⟨l, hl⟩ : ∃ l, (enc B9 b).length = l := ⟨_, rfl⟩
  have hln : l ≤ n := by rw [← hl, ← hn]; exact enc_len_mono B9_gt hab
  rw [hn] at ha
  simp (disch := omega) only [go_sem, Nat.reduceEqDiff, Nat.reduceBEq, ↓reduceIte, reduceCtorEq, hn]
  refine k_loop (fun (⟨i, c, ds⟩ : Nat × Nat × List Nat) st => st.fr 0 = natS a ∧ st.fr 1 = natS b ∧ st.fr 5 = .ref 0 i 0 i ∧ st.fr 11 = .int .i64 n ∧ st.fr 12 = .int .i64 i ∧ st.fr 6 = .int .i64 c ∧ (∃ ex, st.h 0 = ⟨2, natA .i64 ds, ex, true, true⟩) ∧ 0 < st.nx ∧ (ds.length = i) ∧ (i ≤ n) ∧ (c ≤ 1) ∧ (∀ d ∈ ds, d < B9) ∧ (val B9 ((enc B9 a).take i) + B9 ^ i * c = val B9 ds + val B9 ((enc B9 b).take i))) (fun (⟨i, c, ds⟩ : Nat × Nat × List Nat) => n - i) (0, 0, [])
    ⟨(by simp [upd_app, natS, natA] <;> omega), (by simp [upd_app, natS, natA] <;> omega), (by simp [upd_app, natS, natA] <;> omega), (by simp [upd_app, natS, natA] <;> omega), (by simp [upd_app, natS, natA] <;> omega), (by simp [upd_app, natS, natA] <;> omega), ⟨true, (by simp [upd_app, natS, natA] <;> omega)⟩, (by simp <;> omega), rfl, by simp, by simp, by simp, by simp [val]⟩ ?_
  rintro ⟨i, c, ds⟩ ⟨fr, h, nx⟩ ⟨g0, g1, g5, g11, g12, g6, ⟨ex0, hm0⟩, hnx, hlen, hi, hc, hq, hv⟩ J hJ
  simp only at g0 g1 g5 g11 g12 g6 hm0 hnx
  simp only [natS] at g0 g1
  have hdl : (natA .i64 ds).length = i := by rw [natA_length, hlen]
  have n1 : (0 = nx) = False := by simp; omega
  have n2 : (nx = 0) = False := by simp; omega
  by_cases hin : i < n
  · obtain ⟨x, hx⟩ := get_some (xs := enc B9 a) (i := i) (by omega)
    have hxB : x < B9 := enc_lt B9_gt a x (List.mem_of_getElem? hx)
    obtain ⟨y, hy⟩ : ∃ y, (enc B9 b).getD i 0 = y := ⟨_, rfl⟩
    have hyB : y < B9 := by rw [← hy]; exact getD_lt B9_gt (enc_lt B9_gt b) i
    have hvx := val_take_succ (B := B9) hx
    have hvy := val_take_getD (B := B9) (xs := enc B9 b) (i := i)
    rw [hy] at hvy
    have key : ∀ (c' e : Nat) (st : St), c' ≤ 1 → e < B9 → x + B9 * c' = e + y + c → st.fr 0 = natS a → st.fr 1 = natS b → st.fr 5 = .ref 0 (i + 1) 0 (i + 1) → st.fr 11 = .int .i64 n → st.fr 12 = .int .i64 ((i + 1 : Nat) : Int) → st.fr 6 = .int .i64 c' →
        (∃ ex, st.h 0 = ⟨2, natA .i64 (ds ++ [e]), ex, true, true⟩) → 0 < st.nx → J st := by
      intro c' e st h1 h2 h3 k0 k1 k5 k11 k12 k6 kh kn
      refine hJ (i + 1, c', ds ++ [e]) st ⟨k0, k1, k5, k11, k12, k6, kh, kn, by simp [hlen], hin, h1, ?_, ?_⟩ (by simp only; omega)
      · intro d hd
        rcases List.mem_append.1 hd with h | h
        · exact hq d h
        · rw [List.mem_singleton.1 h]; exact h2
      · try simp only
        rw [hvx, hvy, val_snoc, hlen]
        exact sub_step hv h3
    clear hJ hv hvx hvy hq
    rw [hB] at hxB hyB
    simp only [hB] at key
    by_cases hneg : x < y + c
    · simp (disch := omega) only [go_sem, Nat.reduceEqDiff, Nat.reduceBEq, ↓reduceIte, reduceCtorEq, g0, g1, g5, g11, g12, g6, hm0, hdl, hx, hy, hl, hn, reach, n1, n2]
      (repeat (with_reducible refine Or.inr ?_))
      have e : ((x : Int) - y - c + 1000000000) = ((x + 1000000000 - y - c : Nat) : Int) := by omega
      exact key 1 (x + 1000000000 - y - c) _ (by omega) (by omega) (by omega) (by simp [upd_app, g0, natS] <;> omega) (by simp [upd_app, g1, natS] <;> omega) (by simp [upd_app] <;> omega) (by simp [upd_app, g11] <;> omega) (by simp [upd_app] <;> omega) (by simp [upd_app] <;> omega) ⟨false, by simp [upd_app, n1, n2, hm0, natA, e]⟩ (by simp <;> omega)
    · simp (disch := omega) only [go_sem, Nat.reduceEqDiff, Nat.reduceBEq, ↓reduceIte, reduceCtorEq, g0, g1, g5, g11, g12, g6, hm0, hdl, hx, hy, hl, hn, reach, n1, n2]
      (repeat (with_reducible refine Or.inr ?_))
      have e : ((x : Int) - y - c) = ((x - y - c : Nat) : Int) := by omega
      exact key 0 (x - y - c) _ (by omega) (by omega) (by omega) (by simp [upd_app, g0, natS] <;> omega) (by simp [upd_app, g1, natS] <;> omega) (by simp [upd_app] <;> omega) (by simp [upd_app, g11] <;> omega) (by simp [upd_app] <;> omega) (by simp [upd_app] <;> omega) ⟨false, by simp [upd_app, n1, n2, hm0, natA, e]⟩ (by simp <;> omega)
  · obtain rfl : i = n := by omega
    rw [List.take_of_length_le (by omega), List.take_of_length_le (by omega), val_enc B9_gt, val_enc B9_gt] at hv
    have hvl := val_lt (B := B9) hq
    rw [hlen] at hvl
    have hval : val B9 ds = a - b := by
      rcases Nat.eq_zero_or_pos c with rfl | hc0
      · simp at hv; omega
      · obtain rfl : c = 1 := by omega
        omega
    clear hJ
    simp (disch := omega) only [go_sem, Nat.reduceEqDiff, Nat.reduceBEq, ↓reduceIte, reduceCtorEq, g0, g1, g5, g11, g12, hm0, hdl]
    refine callW_F (s_Trim hm' (ds.take i) (by simp; omega)) c_Trim (snapL_oneX (id := 0) (st := ⟨_, _, _⟩) (by exact hm0) (by simp [hlen]) (Nat.le_refl _)) (by simp [hm0]) (by simp [AV.pure, AV.pureL]) (by simp [AV.pure, AV.pureL]) (by simp) ?_
    simp (disch := omega) only [go_sem, Nat.reduceEqDiff, Nat.reduceBEq, ↓reduceIte, reduceCtorEq]
    have e3 : trimZ (ds.take i) = enc B9 (a - b) := by
      rw [List.take_of_length_le (by simp [hlen]), trimZ_enc B9_gt hq, hval]
    rw [e3, ← hQ]
    exact post_one (.inl rfl) rfl (by simp only [upd_app, ↓reduceIte, natS]) (natS_pure _)
attribute [go_sem] w_sNatLess
theorem w_sNatMul {a b : Nat} (ha : (enc B9 a).length ≤ 1099511627776) (hb : (enc B9 b).length ≤ 1099511627776) : CW Tryz.prog 41 [natS a, natS b] (natS (a * b)) := by
  refine cw (by kernel_rfl) (by simp [AV.pure, AV.pureL]) (by simp [AV.pure, AV.pureL]) ?_
  (refine callOk_of_wpc (W := fun g => g == 63) false hm' Tryz.func41 rfl (by kernel_rfl) (Nat.le_of_ble_eq_true rfl) (go_start ?_); generalize hQ : Post Tryz.prog Tryz.f41 _ _ _ _ _ = Q; simp only [stIn, matL, matA, st00, natS])
  have hB : B9 = 1000000000 := rfl
  obtain ⟨n, hn⟩ : ∃ n, (enc B9 a).length = n := ⟨_, rfl⟩
  obtain ⟨l, hl⟩ : ∃ l, (enc B9 b).length = l := ⟨_, rfl⟩
  rw [hn] at ha; rw [hl] at hb
  have hblt : b < B9 ^ l := by rw [← hl]; exact enc_len_pow B9_gt
  simp (disch := omega) only [go_sem, Nat.reduceEqDiff, Nat.reduceBEq, ↓reduceIte, reduceCtorEq, hn, hl, reach]
  refine k_loop (fun (⟨i, ds⟩ : Nat × List Nat) st => st.fr 0 = natS a ∧ st.fr 1 = natS b ∧ st.fr 5 = .ref 0 (n + l) 0 (n + l) ∧ st.fr 17 = .int .i64 n ∧ st.fr 18 = .int .i64 i ∧ st.h 0 = ⟨2, natA .i64 ds, true, true, true⟩ ∧ 0 < st.nx ∧ (ds.length = n + l) ∧ (i ≤ n) ∧ (∀ d ∈ ds, d < B9) ∧ (val B9 ds = val B9 ((enc B9 a).take i) * b)) (fun (⟨i, ds⟩ : Nat × List Nat) => n - i) (0, List.replicate (n + l) 0)
    ⟨(by simp [upd_app, natS] <;> omega), (by simp [upd_app, natS] <;> omega), (by simp [upd_app, natS] <;> omega), (by simp [upd_app, natS] <;> omega), (by simp [upd_app, natS] <;> omega), (by simp [upd_app, natS] <;> omega), (by simp <;> omega), by simp, by simp, zeros_lt B9_gt, by simp [val_zeros, val]⟩ ?_
  rintro ⟨i, ds⟩ ⟨fr, h, nx⟩ ⟨g0, g1, g5, g17, g18, hm0, hnx, hlen, hi, hq, hv⟩ J hJ
  simp only at g0 g1 g5 g17 g18 hm0 hnx
  simp only [natS] at g0 g1
  have hdl : (natA .i64 ds).length = n + l := by rw [natA_length, hlen]
  by_cases hin : i < n
  · obtain ⟨u, hu⟩ := get_some (xs := enc B9 a) (i := i) (by omega)
    have huB : u < B9 := enc_lt B9_gt a u (List.mem_of_getElem? hu)
    have hvu := val_take_succ (B := B9) hu
    have hlow : val B9 ds < B9 ^ (i + l) := by
      rw [hv]
      refine mul_pos_lt ?_ hblt
      have := val_lt (B := B9) (xs := (enc B9 a).take i) (fun d hd => enc_lt B9_gt a d (List.mem_of_mem_take hd))
      rwa [show ((enc B9 a).take i).length = i by simp; omega] at this
    simp (disch := omega) only [go_sem, Nat.reduceEqDiff, Nat.reduceBEq, ↓reduceIte, reduceCtorEq, g0, g1, g5, g17, g18, hm0, hdl, hu, hl]
    refine k_loop (fun (⟨k, c, es⟩ : Nat × Nat × List Nat) st => st.fr 0 = natS a ∧ st.fr 1 = natS b ∧ st.fr 5 = .ref 0 (n + l) 0 (n + l) ∧ st.fr 17 = .int .i64 n ∧ st.fr 18 = .int .i64 i ∧ st.fr 6 = .int .i64 i ∧ st.fr 7 = .int .i64 c ∧ st.fr 22 = .int .i64 l ∧ st.fr 23 = .int .i64 k ∧ st.h 0 = ⟨2, natA .i64 es, true, true, true⟩ ∧ 0 < st.nx ∧ (es.length = n + l) ∧ (k ≤ l) ∧ (c < B9) ∧ (∀ q ∈ es, q < B9) ∧ (val B9 es + B9 ^ (i + k) * c = val B9 ds + B9 ^ i * u * val B9 ((enc B9 b).take k)) ∧ (es.drop (i + k) = ds.drop (i + k))) (fun (⟨k, c, es⟩ : Nat × Nat × List Nat) => l - k) (0, 0, ds)
      ⟨(by simp [upd_app, natS, g0, g1, g5, g17, g18, hm0] <;> omega), (by simp [upd_app, natS, g0, g1, g5, g17, g18, hm0] <;> omega), (by simp [upd_app, natS, g0, g1, g5, g17, g18, hm0] <;> omega), (by simp [upd_app, natS, g0, g1, g5, g17, g18, hm0] <;> omega), (by simp [upd_app, natS, g0, g1, g5, g17, g18, hm0] <;> omega), (by simp [upd_app, natS, g0, g1, g5, g17, g18, hm0] <;> omega), (by simp [upd_app, natS, g0, g1, g5, g17, g18, hm0] <;> omega), (by simp [upd_app, natS, g0, g1, g5, g17, g18, hm0] <;> omega), (by simp [upd_app, natS, g0, g1, g5, g17, g18, hm0] <;> omega), (by simp [upd_app, natS, g0, g1, g5, g17, g18, hm0] <;> omega), (by simp <;> omega), hlen, by simp, by simp [B9], hq, by simp [val], rfl⟩ ?_
    rintro ⟨k, c, es⟩ ⟨fr, h, nx⟩ ⟨g0, g1, g5, g17, g18, g6, g7, g22, g23, hm0, hnx, hel, hk, hc, hp, hw, hd⟩ J2 hJ2
    simp only at g0 g1 g5 g17 g18 g6 g7 g22 g23 hm0 hnx
    simp only [natS] at g0 g1
    have hdl : (natA .i64 es).length = n + l := by rw [natA_length, hel]
    by_cases hkl : k < l
    · obtain ⟨y, hy⟩ := get_some (xs := enc B9 b) (i := k) (by omega)
      obtain ⟨o, ho⟩ := get_some (xs := es) (i := i + k) (by omega)
      have hyB : y < B9 := enc_lt B9_gt b y (List.mem_of_getElem? hy)
      have hoB : o < B9 := hp o (List.mem_of_getElem? ho)
      obtain ⟨s1, s2, s3⟩ := mul_step hc huB hyB hoB
      have hset := fun v => val_set (B := B9) (v := v) ho
      have hvy := val_take_succ (B := B9) hy
      have key : ∀ st : St, st.fr 0 = natS a → st.fr 1 = natS b → st.fr 5 = .ref 0 (n + l) 0 (n + l) → st.fr 17 = .int .i64 n → st.fr 18 = .int .i64 i → st.fr 6 = .int .i64 i →
          st.fr 7 = .int .i64 (((o + u * y + c) / 1000000000 : Nat) : Int) → st.fr 22 = .int .i64 l → st.fr 23 = .int .i64 ((k + 1 : Nat) : Int) →
          st.h 0 = ⟨2, natA .i64 (es.set (i + k) ((o + u * y + c) % 1000000000)), true, true, true⟩ → 0 < st.nx → J2 st := by
        intro st k0 k1 k5 k17 k18 k6 k7 k22 k23 kh kn
        rw [show c + (u * y + o) = o + u * y + c by omega] at s1 s2
        refine hJ2 (k + 1, (o + u * y + c) / B9, es.set (i + k) ((o + u * y + c) % B9)) st ⟨k0, k1, k5, k17, k18, k6, k7, k22, k23, kh, kn, by simp [hel], hkl, s1, set_lt hp s2, ?_, ?_⟩ (by simp only; omega)
        · have h1 := hset ((o + u * y + c) % B9)
          have h2 : B9 ^ (i + k) * ((o + u * y + c) % B9 + B9 * ((o + u * y + c) / B9)) = B9 ^ (i + k) * (o + u * y + c) := by rw [Nat.mod_add_div]
          have h3 : B9 ^ i * u * (B9 ^ k * y) = B9 ^ (i + k) * (u * y) := by rw [Nat.pow_add, Nat.mul_assoc, Nat.mul_assoc]; congr 1; rw [Nat.mul_left_comm]
          rw [Nat.mul_add, Nat.mul_add, Nat.mul_add, ← Nat.mul_assoc] at h2
          simp only [hvy]
          rw [Nat.mul_add, h3, ← Nat.add_assoc i k 1, Nat.pow_succ]; omega
        · try simp only
          rw [List.drop_set_of_lt (by omega)]
          have := congrArg (List.drop 1) hd
          rw [List.drop_drop, List.drop_drop] at this
          exact this
      clear hJ hJ2 hw hd hset s1 s2 hvy hv hlow hvu
      rw [hB] at huB hyB hoB hc s3
      obtain ⟨z, hz⟩ : ∃ z, u * y = z := ⟨_, rfl⟩
      have hz3 : z ≤ 999999998000000001 := by
        have : u * y ≤ 999999999 * 999999999 := Nat.mul_le_mul (by omega) (by omega)
        omega
      rw [hz] at key
      simp (disch := omega) only [go_sem, Nat.reduceEqDiff, Nat.reduceBEq, ↓reduceIte, reduceCtorEq, g0, g1, g5, g17, g18, g6, g7, g22, g23, hm0, hdl, hel, hu, hy, ho, hz]
      exact key _ (by simp [upd_app, g0, natS] <;> omega) (by simp [upd_app, g1, natS] <;> omega) (by simp [upd_app, g5] <;> omega) (by simp [upd_app, g17] <;> omega) (by simp [upd_app, g18] <;> omega) (by simp [upd_app, g6] <;> omega) (by simp [upd_app] <;> omega) (by simp [upd_app, g22] <;> omega) (by simp [upd_app] <;> omega) (by simp [upd_app] <;> omega) (by simp <;> omega)
    · obtain rfl : k = l := by omega
      have eb : (enc B9 b).take k = enc B9 b := List.take_of_length_le (by omega)
      rw [eb, val_enc B9_gt] at hw
      obtain ⟨o, ho⟩ := get_some (xs := es) (i := i + k) (by omega)
      have ho' : ds[i + k]? = some o := by
        have := congrArg (·[0]?) hd
        simp only [List.getElem?_drop, Nat.add_zero] at this; rw [← this]; exact ho
      obtain rfl : o = 0 := zero_at B9_gt hq ho' hlow
      have hset := val_set (B := B9) (v := c) ho
      have key : ∀ st : St, st.fr 0 = natS a → st.fr 1 = natS b → st.fr 5 = .ref 0 (n + k) 0 (n + k) → st.fr 17 = .int .i64 n → st.fr 18 = .int .i64 ((i + 1 : Nat) : Int) →
          st.h 0 = ⟨2, natA .i64 (es.set (i + k) c), true, true, true⟩ → 0 < st.nx → J st := by
        intro st k0 k1 k5 k17 k18 kh kn
        refine hJ (i + 1, es.set (i + k) c) st ⟨k0, k1, k5, k17, k18, kh, kn, by simp [hel], hin, set_lt hp hc, ?_⟩ (by simp only; omega)
        simp only [Nat.mul_zero, Nat.add_zero] at hset
        try simp only
        rw [hset, hw, hvu, hv, Nat.add_mul]
      clear hJ hJ2 hw hd hset hv hlow hvu
      rw [hB] at hc
      simp (disch := omega) only [go_sem, Nat.reduceEqDiff, Nat.reduceBEq, ↓reduceIte, reduceCtorEq, g0, g1, g5, g17, g18, g6, g7, g22, g23, hm0, hdl, hel, ho, hl]
      exact key _ (by simp [upd_app, g0, natS] <;> omega) (by simp [upd_app, g1, natS] <;> omega) (by simp [upd_app, g5] <;> omega) (by simp [upd_app, g17] <;> omega) (by simp [upd_app] <;> omega) (by simp [upd_app] <;> omega) (by simp <;> omega)
  · obtain rfl : i = n := by omega
    have ex : (enc B9 a).take i = enc B9 a := List.take_of_length_le (by omega)
    rw [ex, val_enc B9_gt] at hv
    clear hJ
    simp (disch := omega) only [go_sem, Nat.reduceEqDiff, Nat.reduceBEq, ↓reduceIte, reduceCtorEq, g0, g1, g5, g17, g18, hm0, hdl]
    refine callW_F (s_Trim hm' (ds.take (i + l)) (by simp; omega)) c_Trim (snapL_oneX (id := 0) (st := ⟨_, _, _⟩) (by exact hm0) (by simp [hlen]) (Nat.le_refl _)) (by simp [hm0]) (by simp [AV.pure, AV.pureL]) (by simp [AV.pure, AV.pureL]) (by simp) ?_
    simp (disch := omega) only [go_sem, Nat.reduceEqDiff, Nat.reduceBEq, ↓reduceIte, reduceCtorEq]
    have e3 : trimZ (ds.take (i + l)) = enc B9 (a * b) := by
      rw [List.take_of_length_le (by simp [hlen]), trimZ_enc B9_gt hq, hv]
    rw [e3, ← hQ]
    exact post_one (.inl rfl) rfl (by simp only [upd_app, ↓reduceIte, natS]) (natS_pure _)
attribute [go_sem] w_sNatMul
theorem w_sNat {n : Int} (h0 : 0 ≤ n) (h1 : n < 9223372036854775808) : CW Tryz.prog 64 [.int .i64 n] (natS n.toNat) :=
 cw (by kernel_rfl) (by simp [AV.pure, AV.pureL]) (by simp [AV.pure, AV.pureL]) (by have := s_Nat hm' n.toNat (by omega); rwa [Int.toNat_of_nonneg h0] at this)
attribute [go_sem] w_sNat
theorem w_sCmp {a b : Nat} (ha : (enc B9 a).length < 9223372036854775808) (hb : (enc B9 b).length < 9223372036854775808) : CW Tryz.prog 40 [natS a, natS b] (.int .i64 (cmpI a b)) := cw (by kernel_rfl) (by simp [AV.pure, AV.pureL]) (by simp [AV.pure, AV.pureL]) (s_Cmp hm' a b ha hb)
attribute [go_sem] w_sCmp
theorem w_sDiv {a b : Nat} (ha : (enc B9 a).length ≤ 1099511627775) (hb0 : b ≠ 0) (hb : (enc B9 b).length ≤ 1099511627775) : CW Tryz.prog 78 [natS a, natS b] (.tup [natS (a / b), natS (a % b)]) := cw (by kernel_rfl) (by simp [AV.pure, AV.pureL]) (by simp [AV.pure, AV.pureL]) (s_NatDiv a b ha hb0 hb)
attribute [go_sem] w_sDiv
theorem w_sGcd {a b : Nat} (ha : (enc B9 a).length ≤ 1099511627775) (hb : (enc B9 b).length ≤ 1099511627775) : CW Tryz.prog 62 [natS a, natS b] (natS (Nat.gcd a b)) := cw (by kernel_rfl) (by simp [AV.pure, AV.pureL]) (by simp [AV.pure, AV.pureL]) (s_Gcd a b ha hb)
attribute [go_sem] w_sGcd
theorem self_mkRat (a : Rat) : a = mkRat (sg (qd a).1 (qd a).2.1) (qd a).2.2 := by rw [qd_sg]; exact (Rat.mkRat_self a).symm
theorem sg_mul (p : Bool) (x e : Nat) : sg p (x * e) = sg p x * e := by cases p <;> simp [sg, Int.neg_mul]
theorem scale_mkRat {p : Bool} {x d e : Nat} (he : e ≠ 0) : mkRat (sg p x) d = mkRat (sg p (x * e)) (d * e) := by rw [sg_mul]; exact (Rat.mkRat_mul_right he).symm
theorem add_common {a b : Rat} {p q : Int} {c : Nat} (ha : a = mkRat p c) (hb : b = mkRat q c) : a + b = mkRat (p + q) c := by
 rw [ha, hb, Rat.mkRat_eq_div, Rat.mkRat_eq_div, Rat.mkRat_eq_div, Rat.intCast_add, Rat.div_def, Rat.div_def, Rat.div_def, Rat.add_mul]
theorem sg_same {p : Bool} {x y : Nat} : sg p x + sg p y = sg p (x + y) := by cases p <;> simp [sg] <;> omega
theorem sg_ge {p q : Bool} {x y : Nat} (h : p ≠ q) (hxy : y ≤ x) : sg p x + sg q y = sg p (x - y) := by cases p <;> cases q <;> simp_all [sg] <;> omega
theorem sg_lt {p q : Bool} {x y : Nat} (h : p ≠ q) (hxy : x ≤ y) : sg p x + sg q y = sg q (y - x) := by cases p <;> cases q <;> simp_all [sg] <;> omega
theorem qd_int (n : Int) : qd (n : Rat) = (decide (n < 0), n.natAbs, 1) := Prod.ext (decide_eq_decide.2 Iff.rfl) rfl
theorem fits_int {n : Int} {k : Nat} (h : n.natAbs < 2 ^ k) (hk : 0 < k) : fits k (n : Rat) := ⟨by simpa using h, by simpa using Nat.one_lt_two_pow (by omega)⟩
theorem den_ne (a : Rat) : a.den ≠ 0 := a.den_nz
theorem num_neg (a : Rat) : decide (a.num < 0) = decide (a < 0) := decide_eq_decide.2 (by rw [← Int.not_le, Rat.num_nonneg, Rat.not_le])
theorem num_zero {a : Rat} : a.num = 0 ↔ a = 0 := Rat.num_eq_zero
theorem post_cell1 {P : Program} {fn : Func} {n0 : Nat} {fl : Bool} {t : Tmp} {T id : Nat} {x r : AV} {st : St} {e : Ex} (he : e = .ret ∨ e = .normal) (hr : fn.results.toList = [.cell t T]) (hok : okT P T = true) (hv : st.fr t = .ptr id 1 0 0) (hlv : (st.h id).lv = true) (hx : (st.h id).xs = [x])
  (hl : ldA P T x 0 = some r) (hp : r.pure = true) : Post P fn n0 fl false r [] e st := by
 refine ⟨by rcases he with rfl | rfl <;> trivial, r, by rw [hr]; simp [resV, resL, resA, hv, hok, loadA, hlv, hx, hl], [], ?_, .inl rfl⟩
 simp only [Bool.false_eq_true, if_false]
 exact ⟨snapA_pure hp, by simp⟩
theorem natI0 : natI 0 = .sl 114 [] [] false := by simp [natI, enc_zero, natA]
theorem enc_one {B : Nat} (hB : 1 < B) : enc B 1 = [1] := by rw [enc_pos hB (by omega), Nat.mod_eq_of_lt hB, Nat.div_eq_of_lt hB, enc_zero]
theorem one_len {B g x : Nat} (hB : 1 < B) (hl : (enc B g).length = 1) (hx : (enc B g)[0]? = some x) : x = g := by
 obtain ⟨y, hy⟩ := List.length_eq_one_iff.1 hl
 have := val_enc hB g
 rw [hy] at this hx
 simp [val] at this hx
 omega
theorem w_natOf1 : CW Tryz.prog 55 [.int .u64 1] (natI 1) := w_natOf (n := 1) (by omega) (by omega)
theorem enc_div_len {B m g : Nat} (hB : 1 < B) : (enc B (m / g)).length ≤ (enc B m).length := enc_len_mono hB (Nat.div_le_self _ _)
theorem cmpI_ne {m n : Nat} (h : m ≠ n) : cmpI m n ≠ 0 := by
  rcases Nat.lt_or_gt_of_ne h with h | h
  · rw [cmpI_lt h]; decide
  · rw [cmpI_gt h]; decide
theorem cmpI_ge {m n : Nat} (h : n ≤ m) : 0 ≤ cmpI m n := by
  rcases Nat.eq_or_lt_of_le h with rfl | h
  · rw [cmpI_eq]; decide
  · rw [cmpI_gt h]; decide
def lowQ (b : Bool) (m n : Nat) : Qd := (b && decide (m ≠ 0), m / Nat.gcd m n, n / Nat.gcd m n)
theorem low_mkRat {b : Bool} {m n : Nat} (h : n ≠ 0) : qd (mkRat (sg b m) n) = lowQ b m n := qd_mkRat b m n h
theorem add_low {a b : Rat} {p q : Bool} {X Y C : Nat} (hC : C ≠ 0) (ha : a = mkRat (sg p X) C) (hb : b = mkRat (sg q Y) C) :
    (p = q → qd (a + b) = lowQ p (X + Y) C) ∧ (p ≠ q → Y ≤ X → qd (a + b) = lowQ p (X - Y) C) ∧ (p ≠ q → X ≤ Y → qd (a + b) = lowQ q (Y - X) C) := by
  have h := add_common ha hb
  refine ⟨fun e => ?_, fun e l => ?_, fun e l => ?_⟩
  · subst e; rw [h, sg_same, low_mkRat hC]
  · rw [h, sg_ge e l, low_mkRat hC]
  · rw [h, sg_lt e l, low_mkRat hC]
theorem w_low {b : Bool} {m n : Nat} (hm : (enc B32 m).length ≤ 1099511627775) (hn : (enc B32 n).length ≤ 1099511627775) (h0 : n ≠ 0) :
    CW Tryz.prog 73 [.bool b, natI m, natI n] (.agg [.bool (b && decide (m ≠ 0)), natI (m / Nat.gcd m n), natI (n / Nat.gcd m n)]) := by
  refine cw (by kernel_rfl) (by simp [AV.pure, AV.pureL]) (by simp [AV.pure, AV.pureL]) ?_
  have h1 := w_natOf1
  simp only [natI] at h1
  by_cases hz : m = 0
  · subst hz
    refine CallOk.res (r := .agg [.bool false, .nil, natI 1]) ?_ (sub_agg (SubL.cons (by simpa using Sub.refl _) (SubL.cons (by rw [Nat.zero_div, natI0]; exact sub_nil) (SubL.cons (by rw [Nat.gcd_zero_left, Nat.div_self (by omega)]; exact Sub.refl _) .nil))))
    (refine callOk_of_wpc (W := fun _ => false) false hm' Tryz.func73 rfl (by kernel_rfl) (Nat.le_of_ble_eq_true rfl) (go_start ?_); generalize hQ : Post Tryz.prog Tryz.f73 _ _ _ _ _ = Q; simp only [stIn, matL, matA, st00, natI])
    simp (disch := omega) only [go_sem, Nat.reduceEqDiff, Nat.reduceBEq, ↓reduceIte, reduceCtorEq, enc_zero, natA_nil, List.length_nil, h1]
    (repeat (with_reducible refine Or.inr ?_))
    rw [← hQ]
    exact post_cell1 (id := 0) (x := .agg [.bool false, .nil, natI 1]) (.inl rfl) rfl o_iRat (by simp [upd_app] <;> omega) (by simp [upd_app]) (by simp [upd_app, natI]) ld_iRat (by simp [AV.pure, AV.pureL])
  have hml : 0 < (enc B32 m).length := enc_len_pos B32_gt hz
  obtain ⟨g, hg⟩ : ∃ g, Nat.gcd m n = g := ⟨_, rfl⟩
  have hg0 : g ≠ 0 := by rw [← hg]; exact Nat.ne_of_gt (Nat.gcd_pos_of_pos_left _ (by omega))
  have hgm : (enc B32 g).length ≤ 1099511627775 := Nat.le_trans (enc_len_mono B32_gt (by rw [← hg]; exact Nat.le_of_dvd (by omega) (Nat.gcd_dvd_left m n))) hm
  have hgl := enc_len_pos B32_gt hg0
  have h2 := w_natGcd (a := m) (b := n) hm hn
  have h3 := w_natDiv (a := m) (b := g) hm hg0 hgm
  have h4 := w_natDiv (a := n) (b := g) hn hg0 hgm
  rw [hg] at h2 ⊢
  simp only [natI] at h2 h3 h4
  obtain ⟨x, hx⟩ := get_some (xs := enc B32 g) (i := 0) hgl
  have hx' : (enc B32 g)[Int.toNat 0]? = some x := hx
  rw [show (b && decide (m ≠ 0)) = b by simp [hz]]
  by_cases h1g : g = 1
  · subst h1g
    rw [Nat.div_one, Nat.div_one]
    rw [enc_one B32_gt] at hx hx' h2
    obtain rfl : x = 1 := by simpa using hx.symm
    (refine callOk_of_wpc (W := fun _ => false) false hm' Tryz.func73 rfl (by kernel_rfl) (Nat.le_of_ble_eq_true rfl) (go_start ?_); generalize hQ : Post Tryz.prog Tryz.f73 _ _ _ _ _ = Q; simp only [stIn, matL, matA, st00, natI])
    simp (disch := omega) only [go_sem, Nat.reduceEqDiff, Nat.reduceBEq, ↓reduceIte, reduceCtorEq, h2, hx', natA_length, List.length_cons, List.length_nil]
    (repeat (with_reducible refine Or.inr ?_))
    rw [← hQ]
    exact post_cell1 (id := 0) (x := .agg [.bool b, natI m, natI n]) (.inl rfl) rfl o_iRat (by simp [upd_app] <;> omega) (by simp [upd_app]) (by simp [upd_app, natI]) ld_iRat (by simp [AV.pure, AV.pureL])
  · by_cases hl1 : (enc B32 g).length = 1
    · have hxg := one_len B32_gt hl1 hx
      (refine callOk_of_wpc (W := fun _ => false) false hm' Tryz.func73 rfl (by kernel_rfl) (Nat.le_of_ble_eq_true rfl) (go_start ?_); generalize hQ : Post Tryz.prog Tryz.f73 _ _ _ _ _ = Q; simp only [stIn, matL, matA, st00, natI])
      simp (disch := omega) only [go_sem, Nat.reduceEqDiff, Nat.reduceBEq, ↓reduceIte, reduceCtorEq, h2, h3, h4, hx', hl1]
      (repeat (with_reducible refine Or.inr ?_))
      rw [← hQ]
      exact post_cell1 (id := 0) (x := .agg [.bool b, natI (m / g), natI (n / g)]) (.inl rfl) rfl o_iRat (by simp [upd_app] <;> omega) (by simp [upd_app]) (by simp [upd_app, natI]) ld_iRat (by simp [AV.pure, AV.pureL])
    · (refine callOk_of_wpc (W := fun _ => false) false hm' Tryz.func73 rfl (by kernel_rfl) (Nat.le_of_ble_eq_true rfl) (go_start ?_); generalize hQ : Post Tryz.prog Tryz.f73 _ _ _ _ _ = Q; simp only [stIn, matL, matA, st00, natI])
      simp (disch := omega) only [go_sem, Nat.reduceEqDiff, Nat.reduceBEq, ↓reduceIte, reduceCtorEq, h2, h3, h4]
      (repeat (with_reducible refine Or.inr ?_))
      rw [← hQ]
      exact post_cell1 (id := 0) (x := .agg [.bool b, natI (m / g), natI (n / g)]) (.inl rfl) rfl o_iRat (by simp [upd_app] <;> omega) (by simp [upd_app]) (by simp [upd_app, natI]) ld_iRat (by simp [AV.pure, AV.pureL])
attribute [go_sem] w_natOf1
theorem w_mag {n : Int} (h0 : -9223372036854775808 ≤ n) (h1 : n < 9223372036854775808) : CW Tryz.prog 56 [.int .i64 n] (.int .u64 n.natAbs) := by
  refine cw (by kernel_rfl) (by simp [AV.pure, AV.pureL]) (by simp [AV.pure, AV.pureL]) ?_
  (refine callOk_of_wpc (W := fun _ => false) false hm' Tryz.func56 rfl (by kernel_rfl) (Nat.le_of_ble_eq_true rfl) (go_start ?_); generalize hQ : Post Tryz.prog Tryz.f56 _ _ _ _ _ = Q; simp only [stIn, matL, matA, st00])
  by_cases hn : n < 0
  · have e1 : IntKind.u64.wrap n = n + 18446744073709551616 := by simp only [IntKind.wrap, IntKind.signed, IntKind.bits, Bool.false_and, Bool.false_eq_true, if_false]; omega
    have e2 : IntKind.u64.wrap (0 - (n + 18446744073709551616)) = n.natAbs := by simp only [IntKind.wrap, IntKind.signed, IntKind.bits, Bool.false_and, Bool.false_eq_true, if_false]; omega
    simp (disch := omega) only [go_sem, Nat.reduceEqDiff, Nat.reduceBEq, ↓reduceIte, reduceCtorEq, e1, e2]
    rw [← hQ]
    exact post_one (.inl rfl) rfl (by simp [upd_app] <;> omega) rfl
  · have e1 : (n.natAbs : Int) = n := by omega
    rw [e1] at hQ
    simp (disch := omega) only [go_sem, Nat.reduceEqDiff, Nat.reduceBEq, ↓reduceIte, reduceCtorEq]
    rw [← hQ]
    exact post_one (.inl rfl) rfl (by simp [upd_app] <;> omega) rfl
attribute [go_sem] w_mag
attribute [go_sem] w_mag
theorem w_whole {n : Int} (h0 : -9223372036854775808 ≤ n) (h1 : n < 9223372036854775808) : CW Tryz.prog 31 [.int .i64 n] (rI 64 (n : Rat)) := by
 refine cw (by kernel_rfl) (by simp [AV.pure, AV.pureL]) (by simp [AV.pure, AV.pureL]) ?_
 rw [rI_eq (fits_int (by omega) (by omega)), qd_int, ratI]
 have h2 := w_natOf1
 have h3 := w_natOf (n := n.natAbs) (by omega) (by omega)
 rw [Int.toNat_natCast] at h3
 simp only [natI] at h2 h3
 (refine callOk_of_wpc (W := fun _ => false) false hm' Tryz.func31 rfl (by kernel_rfl) (Nat.le_of_ble_eq_true rfl) (go_start ?_); generalize hQ : Post Tryz.prog Tryz.f31 _ _ _ _ _ = Q; simp only [stIn, matL, matA, st00])
 by_cases hn : n < 0
 all_goals
  simp (disch := omega) only [go_sem, Nat.reduceEqDiff, Nat.reduceBEq, ↓reduceIte, reduceCtorEq, h2, h3]
  (repeat (with_reducible refine Or.inr ?_))
  rw [← hQ]
  exact post_cell1 (id := 0) (x := .agg [.bool (decide (n < 0)), natI n.natAbs, natI 1]) (.inl rfl) rfl o_iRat (by simp [upd_app] <;> omega) (by simp [upd_app]) (by simp [upd_app, natI, hn]) ld_iRat (by simp [AV.pure, AV.pureL])
attribute [go_sem] w_whole
theorem w_sign {m : Nat} {a : Rat} (h : m ≤ 274877906944) : CW Tryz.prog 51 [rI m a] (.int .i64 a.num.sign) := by
  refine cw (by kernel_rfl) (by simp [AV.pure, AV.pureL]) (by simp [AV.pure, AV.pureL]) ?_
  refine callOk_told (x := rI m a) told_rI (by simp) (by simp [AV.pure, AV.pureL]) fun ha => ?_
  have hl := len32 ha.1
  rw [rI_eq ha, ratI, qd]
  rcases Int.lt_trichotomy a.num 0 with hn | hn | hn
  · rw [Int.sign_eq_neg_one_of_neg hn]
    have hl0 := enc_len_pos B32_gt (show a.num.natAbs ≠ 0 by omega)
    simp only [hn, decide_true]
    (refine callOk_of_wpc (W := fun _ => false) false hm' Tryz.func51 rfl (by kernel_rfl) (Nat.le_of_ble_eq_true rfl) (go_start ?_); generalize hQ : Post Tryz.prog Tryz.f51 _ _ _ _ _ = Q; simp only [stIn, matL, matA, st00, natI])
    simp (disch := omega) only [go_sem, Nat.reduceEqDiff, Nat.reduceBEq, ↓reduceIte, reduceCtorEq]
    rw [← hQ]
    exact post_one (.inl rfl) rfl (by simp [upd_app] <;> omega) rfl
  · rw [hn]
    (refine callOk_of_wpc (W := fun _ => false) false hm' Tryz.func51 rfl (by kernel_rfl) (Nat.le_of_ble_eq_true rfl) (go_start ?_); generalize hQ : Post Tryz.prog Tryz.f51 _ _ _ _ _ = Q; simp only [stIn, matL, matA, st00, natI])
    simp (disch := omega) only [go_sem, Nat.reduceEqDiff, Nat.reduceBEq, ↓reduceIte, reduceCtorEq, Int.natAbs_zero, enc_zero, natA_nil, List.length_nil]
    rw [← hQ]
    exact post_one (.inl rfl) rfl (by simp [upd_app] <;> omega) rfl
  · rw [Int.sign_eq_one_of_pos hn]
    have hl0 := enc_len_pos B32_gt (show a.num.natAbs ≠ 0 by omega)
    simp only [show ¬ a.num < 0 by omega, decide_false]
    (refine callOk_of_wpc (W := fun _ => false) false hm' Tryz.func51 rfl (by kernel_rfl) (Nat.le_of_ble_eq_true rfl) (go_start ?_); generalize hQ : Post Tryz.prog Tryz.f51 _ _ _ _ _ = Q; simp only [stIn, matL, matA, st00, natI])
    simp (disch := omega) only [go_sem, Nat.reduceEqDiff, Nat.reduceBEq, ↓reduceIte, reduceCtorEq]
    rw [← hQ]
    exact post_one (.inl rfl) rfl (by simp [upd_app] <;> omega) rfl
attribute [go_sem] w_sign
theorem w_minus {m : Nat} {a : Rat} (h : m ≤ 274877906944) : CW Tryz.prog 77 [rI m a] (rI m (-a)) := by
  refine cw (by kernel_rfl) (by simp [AV.pure, AV.pureL]) (by simp [AV.pure, AV.pureL]) ?_
  refine callOk_told (x := rI m a) told_rI (by simp) (by simp [AV.pure, AV.pureL]) fun ha => ?_
  have hl := len32 ha.1
  rw [rI_eq (fits_neg ha), qd_neg, rI_eq ha, ratI, qd, ratI]
  have hx : 0 < (enc B32 a.num.natAbs).length ↔ a.num.natAbs ≠ 0 := ⟨fun h e => by rw [e, enc_zero] at h; simp at h, fun h => enc_len_pos B32_gt h⟩
  by_cases hn : a.num < 0
  · simp only [hn, decide_true]
    (refine callOk_of_wpc (W := fun _ => false) false hm' Tryz.func77 rfl (by kernel_rfl) (Nat.le_of_ble_eq_true rfl) (go_start ?_); generalize hQ : Post Tryz.prog Tryz.f77 _ _ _ _ _ = Q; simp only [stIn, matL, matA, st00, natI])
    simp (disch := omega) only [go_sem, Nat.reduceEqDiff, Nat.reduceBEq, ↓reduceIte, reduceCtorEq]
    rw [← hQ]
    exact post_cell1 (id := 1) (x := .agg [.bool false, natI a.num.natAbs, natI a.den]) (.inl rfl) rfl o_iRat (by simp [upd_app] <;> omega) (by simp [upd_app]) (by simp [upd_app, natI]) (by simp [ldA, partA, g_iRat, s_iRat, AV.cells]) (by simp [AV.pure, AV.pureL])
  · simp only [hn, decide_false]
    by_cases h0 : a.num.natAbs = 0
    · rw [show decide (a.num.natAbs ≠ 0) = false by simp [h0]]
      (refine callOk_of_wpc (W := fun _ => false) false hm' Tryz.func77 rfl (by kernel_rfl) (Nat.le_of_ble_eq_true rfl) (go_start ?_); generalize hQ : Post Tryz.prog Tryz.f77 _ _ _ _ _ = Q; simp only [stIn, matL, matA, st00, natI])
      simp (disch := omega) only [go_sem, Nat.reduceEqDiff, Nat.reduceBEq, ↓reduceIte, reduceCtorEq]
      rw [← hQ]
      exact post_cell1 (id := 1) (x := .agg [.bool false, natI a.num.natAbs, natI a.den]) (.inl rfl) rfl o_iRat (by simp [upd_app] <;> omega) (by simp [upd_app]) (by simp [upd_app, natI]) (by simp [ldA, partA, g_iRat, s_iRat, AV.cells]) (by simp [AV.pure, AV.pureL])
    · rw [show decide (a.num.natAbs ≠ 0) = true by simp [h0]]
      (refine callOk_of_wpc (W := fun _ => false) false hm' Tryz.func77 rfl (by kernel_rfl) (Nat.le_of_ble_eq_true rfl) (go_start ?_); generalize hQ : Post Tryz.prog Tryz.f77 _ _ _ _ _ = Q; simp only [stIn, matL, matA, st00, natI])
      simp (disch := omega) only [go_sem, Nat.reduceEqDiff, Nat.reduceBEq, ↓reduceIte, reduceCtorEq]
      rw [← hQ]
      exact post_cell1 (id := 1) (x := .agg [.bool true, natI a.num.natAbs, natI a.den]) (.inl rfl) rfl o_iRat (by simp [upd_app] <;> omega) (by simp [upd_app]) (by simp [upd_app, natI]) (by simp [ldA, partA, g_iRat, s_iRat, AV.cells]) (by simp [AV.pure, AV.pureL])
attribute [go_sem] w_minus
attribute [go_sem] w_minus
set_option maxHeartbeats 1000000 in
theorem w_add {m n : Nat} {a b : Rat} (h : m + n ≤ 274877906944) : CW Tryz.prog 52 [rI m a, rI n b] (rI (m + n + 1) (a + b)) := by
  refine cw (by kernel_rfl) (by simp [AV.pure, AV.pureL]) (by simp [AV.pure, AV.pureL]) ?_
  refine callOk_told (x := rI m a) told_rI (by simp) (by simp [AV.pure, AV.pureL]) fun ha => ?_
  refine callOk_told (x := rI n b) told_rI (by simp) (by simp [AV.pure, AV.pureL]) fun hb => ?_
  have hsa := w_sign (a := a) (m := m) (by omega)
  have hsb := w_sign (a := b) (m := n) (by omega)
  rw [rI_eq ha] at hsa
  rw [rI_eq hb] at hsb
  rw [rI_eq ha, rI_eq hb, rI_eq (fits_add ha hb)]
  have lx := len32 ha.1
  have ld := len32 ha.2
  have ly := len32 hb.1
  have le := len32 hb.2
  have hd0 := den_ne a
  have he0 := den_ne b
  have ea := self_mkRat a
  have eb := self_mkRat b
  have hxe : (enc B32 (a.num.natAbs * b.den)).length ≤ m + n := len32 (mul_lt_pow ha.1 hb.2)
  have hyd : (enc B32 (b.num.natAbs * a.den)).length ≤ m + n := by rw [Nat.add_comm m n]; exact len32 (mul_lt_pow hb.1 ha.2)
  have hde' : (enc B32 (a.den * b.den)).length ≤ m + n := len32 (mul_lt_pow ha.2 hb.2)
  have hsum : (enc B32 (a.num.natAbs * b.den + b.num.natAbs * a.den)).length ≤ m + n + 1 := by
    refine len32 ?_
    have h1 := mul_lt_pow ha.1 hb.2
    have h2 := mul_lt_pow hb.1 ha.2
    rw [Nat.add_comm n m] at h2
    rw [Nat.pow_succ]; omega
  have hsum' : (enc B32 (a.num.natAbs + b.num.natAbs)).length ≤ m + n + 1 := by
    refine len32 ?_
    have h1 := ha.1
    have h2 := hb.1
    have h3 : 2 ^ m ≤ 2 ^ (m + n) := Nat.pow_le_pow_right (by omega) (by omega)
    have h4 : 2 ^ n ≤ 2 ^ (m + n) := Nat.pow_le_pow_right (by omega) (by omega)
    rw [Nat.pow_succ]; omega
  obtain ⟨p, hp⟩ : ∃ p, decide (a.num < 0) = p := ⟨_, rfl⟩
  obtain ⟨q, hq⟩ : ∃ p, decide (b.num < 0) = p := ⟨_, rfl⟩
  have hr1 : qd a = (p, a.num.natAbs, a.den) := by rw [← hp]; rfl
  have hr2 : qd b = (q, b.num.natAbs, b.den) := by rw [← hq]; rfl
  rw [hr1] at hsa ea
  rw [hr2] at hsb eb
  clear hp hq
  by_cases hx0 : a.num = 0
  · have e : a + b = b := by rw [num_zero.1 hx0, Rat.zero_add]
    rw [e, hr1, hr2]
    rw [show a.num.sign = 0 by rw [hx0]; rfl] at hsa
    clear hsb ea eb
    simp only [ratI, natI] at hsa
    (refine callOk_of_wpc (W := fun _ => false) false hm' Tryz.func52 rfl (by kernel_rfl) (Nat.le_of_ble_eq_true rfl) (go_start ?_); generalize hQ : Post Tryz.prog Tryz.f52 _ _ _ _ _ = Q; simp only [stIn, matL, matA, st00, natI,ratI])
    simp (disch := omega) only [go_sem, Nat.reduceEqDiff, Nat.reduceBEq, ↓reduceIte, reduceCtorEq, hsa]
    (repeat (with_reducible refine Or.inr ?_))
    rw [← hQ]
    exact post_cell1 (id := 2) (x := ratI (q, b.num.natAbs, b.den)) (.inl rfl) rfl o_iRat (by simp [upd_app] <;> omega) (by simp [upd_app]) (by simp [upd_app, natI, ratI]) ld_iRat (by simp)
  have hsx : a.num.sign ≠ 0 := fun e => hx0 (Int.sign_eq_zero_iff_zero.1 e)
  by_cases hy0 : b.num = 0
  · have e : a + b = a := by rw [num_zero.1 hy0, Rat.add_zero]
    rw [e, hr1, hr2]
    rw [show b.num.sign = 0 by rw [hy0]; rfl] at hsb
    obtain ⟨s, hs⟩ : ∃ s, a.num.sign = s := ⟨_, rfl⟩
    rw [hs] at hsa hsx
    clear ea eb
    simp only [ratI, natI] at hsa hsb
    (refine callOk_of_wpc (W := fun _ => false) false hm' Tryz.func52 rfl (by kernel_rfl) (Nat.le_of_ble_eq_true rfl) (go_start ?_); generalize hQ : Post Tryz.prog Tryz.f52 _ _ _ _ _ = Q; simp only [stIn, matL, matA, st00, natI,ratI])
    simp (disch := omega) only [go_sem, Nat.reduceEqDiff, Nat.reduceBEq, ↓reduceIte, reduceCtorEq, hsa, hsb]
    (repeat (with_reducible refine Or.inr ?_))
    rw [← hQ]
    exact post_cell1 (id := 2) (x := ratI (p, a.num.natAbs, a.den)) (.inl rfl) rfl o_iRat (by simp [upd_app] <;> omega) (by simp [upd_app]) (by simp [upd_app, natI, ratI]) ld_iRat (by simp)
  have hsy : b.num.sign ≠ 0 := fun e => hy0 (Int.sign_eq_zero_iff_zero.1 e)
  clear hx0 hy0
  obtain ⟨s, hs⟩ : ∃ s, a.num.sign = s := ⟨_, rfl⟩
  obtain ⟨t, ht⟩ : ∃ s, b.num.sign = s := ⟨_, rfl⟩
  obtain ⟨v, hv⟩ : ∃ v, qd (a + b) = v := ⟨_, rfl⟩
  rw [hv, hr1, hr2]
  rw [hs] at hsa hsx; rw [ht] at hsb hsy
  simp only at ea eb
  clear hs ht hr1 hr2 ha hb
  obtain ⟨x, hx⟩ : ∃ x, a.num.natAbs = x := ⟨_, rfl⟩
  obtain ⟨y, hy⟩ : ∃ x, b.num.natAbs = x := ⟨_, rfl⟩
  obtain ⟨d, hd⟩ : ∃ x, a.den = x := ⟨_, rfl⟩
  obtain ⟨e, he⟩ : ∃ x, b.den = x := ⟨_, rfl⟩
  rw [hx, hd] at hsa ea; rw [hy, he] at hsb eb
  rw [hx] at lx hxe hsum hsum'; rw [hd] at ld hyd hde' hd0 hsum; rw [hy] at ly hyd hsum hsum'; rw [he] at le hxe hde' he0 hsum
  rw [hx, hy, hd, he]
  clear hx hy hd he
  have hne : ∀ {p q : Bool}, p ≠ q → (p == q) = false := by decide
  by_cases hde : d = e
  · subst hde
    have hcm := w_natCmp (a := d) (b := d) (by omega) (by omega)
    rw [cmpI_eq] at hcm
    obtain ⟨k1, k2, k3⟩ := add_low hd0 ea eb
    rw [hv] at k1 k2 k3
    clear ea eb hv
    by_cases hpq : p = q
    · subst hpq
      have h1 := w_natAdd (a := x) (b := y) (by omega) (by omega)
      have h2 := w_low (b := p) (m := x + y) (n := d) (by omega) (by omega) hd0
      rw [k1 rfl]
      simp only [natI, ratI] at hsa hsb hcm h1 h2
      (refine callOk_of_wpc (W := fun _ => false) false hm' Tryz.func52 rfl (by kernel_rfl) (Nat.le_of_ble_eq_true rfl) (go_start ?_); generalize hQ : Post Tryz.prog Tryz.f52 _ _ _ _ _ = Q; simp only [stIn, matL, matA, st00, natI,ratI])
      simp (disch := omega) only [go_sem, Nat.reduceEqDiff, Nat.reduceBEq, ↓reduceIte, reduceCtorEq, hsa, hsb, hcm, h1, h2]
      (repeat (with_reducible refine Or.inr ?_))
      rw [← hQ]
      exact post_cell1 (id := 2) (x := ratI (lowQ p (x + y) d)) (.inl rfl) rfl o_iRat (by simp [upd_app] <;> omega) (by simp [upd_app]) (by simp [upd_app, natI, ratI, lowQ] <;> (intros; omega)) ld_iRat (by simp)
    · have hcx := w_natCmp (a := x) (b := y) (by omega) (by omega)
      have e1 := hne hpq
      by_cases hxy : y ≤ x
      · have h1 := w_natSub (a := x) (b := y) (by omega) hxy
        have h2 := w_low (b := p) (m := x - y) (n := d) (Nat.le_trans (enc_len_mono B32_gt (Nat.sub_le x y)) (by omega)) (by omega) hd0
        have hc0 : 0 ≤ cmpI x y := cmpI_ge hxy
        rw [k2 hpq hxy]
        simp only [natI, ratI] at hsa hsb hcm hcx h1 h2
        (refine callOk_of_wpc (W := fun _ => false) false hm' Tryz.func52 rfl (by kernel_rfl) (Nat.le_of_ble_eq_true rfl) (go_start ?_); generalize hQ : Post Tryz.prog Tryz.f52 _ _ _ _ _ = Q; simp only [stIn, matL, matA, st00, natI,ratI])
        simp (disch := omega) only [go_sem, Nat.reduceEqDiff, Nat.reduceBEq, ↓reduceIte, reduceCtorEq, hsa, hsb, hcm, h1, h2, hcx, e1]
        (repeat (with_reducible refine Or.inr ?_))
        rw [← hQ]
        exact post_cell1 (id := 2) (x := ratI (lowQ p (x - y) d)) (.inl rfl) rfl o_iRat (by simp [upd_app] <;> omega) (by simp [upd_app]) (by simp [upd_app, natI, ratI, lowQ] <;> (intros; omega)) ld_iRat (by simp)
      · have h1 := w_natSub (a := y) (b := x) (by omega) (by omega)
        have h2 := w_low (b := q) (m := y - x) (n := d) (Nat.le_trans (enc_len_mono B32_gt (Nat.sub_le y x)) (by omega)) (by omega) hd0
        have hc0 : cmpI x y < 0 := by rw [cmpI_lt (by omega)]; omega
        rw [k3 hpq (by omega)]
        simp only [natI, ratI] at hsa hsb hcm hcx h1 h2
        (refine callOk_of_wpc (W := fun _ => false) false hm' Tryz.func52 rfl (by kernel_rfl) (Nat.le_of_ble_eq_true rfl) (go_start ?_); generalize hQ : Post Tryz.prog Tryz.f52 _ _ _ _ _ = Q; simp only [stIn, matL, matA, st00, natI,ratI])
        simp (disch := omega) only [go_sem, Nat.reduceEqDiff, Nat.reduceBEq, ↓reduceIte, reduceCtorEq, hsa, hsb, hcm, h1, h2, hcx, e1]
        (repeat (with_reducible refine Or.inr ?_))
        rw [← hQ]
        exact post_cell1 (id := 2) (x := ratI (lowQ q (y - x) d)) (.inl rfl) rfl o_iRat (by simp [upd_app] <;> omega) (by simp [upd_app]) (by simp [upd_app, natI, ratI, lowQ] <;> (intros; omega)) ld_iRat (by simp)
  · have hcm := w_natCmp (a := d) (b := e) (by omega) (by omega)
    have hcm0 : cmpI d e ≠ 0 := cmpI_ne (by omega)
    have m1 := w_natMul (a := x) (b := e) (by omega) (by omega)
    have m2 := w_natMul (a := y) (b := d) (by omega) (by omega)
    have m3 := w_natMul (a := d) (b := e) (by omega) (by omega)
    have hC0 : d * e ≠ 0 := Nat.mul_ne_zero hd0 he0
    rw [scale_mkRat he0] at ea
    rw [scale_mkRat hd0, Nat.mul_comm e d] at eb
    obtain ⟨k1, k2, k3⟩ := add_low hC0 ea eb
    rw [hv] at k1 k2 k3
    clear ea eb hv
    obtain ⟨X, hX⟩ : ∃ z, x * e = z := ⟨_, rfl⟩
    obtain ⟨Y, hY⟩ : ∃ z, y * d = z := ⟨_, rfl⟩
    obtain ⟨C, hC⟩ : ∃ z, d * e = z := ⟨_, rfl⟩
    rw [hX] at m1 k1 k2 k3 hxe hsum; rw [hY] at m2 k1 k2 k3 hyd hsum; rw [hC] at m3 k1 k2 k3 hC0 hde'
    by_cases hpq : p = q
    · subst hpq
      have h1 := w_natAdd (a := X) (b := Y) (by omega) (by omega)
      have h2 := w_low (b := p) (m := X + Y) (n := C) (by omega) (by omega) hC0
      rw [k1 rfl]
      simp only [natI, ratI] at hsa hsb hcm m1 m2 m3 h1 h2
      (refine callOk_of_wpc (W := fun _ => false) false hm' Tryz.func52 rfl (by kernel_rfl) (Nat.le_of_ble_eq_true rfl) (go_start ?_); generalize hQ : Post Tryz.prog Tryz.f52 _ _ _ _ _ = Q; simp only [stIn, matL, matA, st00, natI,ratI])
      simp (disch := omega) only [go_sem, Nat.reduceEqDiff, Nat.reduceBEq, ↓reduceIte, reduceCtorEq, hsa, hsb, hcm, h1, h2, m1, m2, m3]
      (repeat (with_reducible refine Or.inr ?_))
      rw [← hQ]
      exact post_cell1 (id := 2) (x := ratI (lowQ p (X + Y) C)) (.inl rfl) rfl o_iRat (by simp [upd_app] <;> omega) (by simp [upd_app]) (by simp [upd_app, natI, ratI, lowQ] <;> (intros; omega)) ld_iRat (by simp)
    · have hcx := w_natCmp (a := X) (b := Y) (by omega) (by omega)
      have e1 := hne hpq
      by_cases hxy : Y ≤ X
      · have h1 := w_natSub (a := X) (b := Y) (by omega) hxy
        have h2 := w_low (b := p) (m := X - Y) (n := C) (Nat.le_trans (enc_len_mono B32_gt (Nat.sub_le X Y)) (by omega)) (by omega) hC0
        have hc0 : 0 ≤ cmpI X Y := cmpI_ge hxy
        rw [k2 hpq hxy]
        simp only [natI, ratI] at hsa hsb hcm m1 m2 m3 hcx h1 h2
        clear k1 k2 k3 hX hY hC hsum hsum' hxe hyd hde' lx ld ly le hd0 he0 hC0 hde hne
        (refine callOk_of_wpc (W := fun _ => false) false hm' Tryz.func52 rfl (by kernel_rfl) (Nat.le_of_ble_eq_true rfl) (go_start ?_); generalize hQ : Post Tryz.prog Tryz.f52 _ _ _ _ _ = Q; simp only [stIn, matL, matA, st00, natI,ratI])
        simp (disch := omega) only [go_sem, Nat.reduceEqDiff, Nat.reduceBEq, ↓reduceIte, reduceCtorEq, hsa, hsb, hcm, h1, h2, hcx, e1, m1, m2, m3]
        (repeat (with_reducible refine Or.inr ?_))
        rw [← hQ]
        exact post_cell1 (id := 2) (x := ratI (lowQ p (X - Y) C)) (.inl rfl) rfl o_iRat (by simp [upd_app] <;> omega) (by simp [upd_app]) (by simp [upd_app, natI, ratI, lowQ] <;> (intros; omega)) ld_iRat (by simp)
      · have h1 := w_natSub (a := Y) (b := X) (by omega) (by omega)
        have h2 := w_low (b := q) (m := Y - X) (n := C) (Nat.le_trans (enc_len_mono B32_gt (Nat.sub_le Y X)) (by omega)) (by omega) hC0
        have hc0 : cmpI X Y < 0 := by rw [cmpI_lt (by omega)]; omega
        rw [k3 hpq (by omega)]
        simp only [natI, ratI] at hsa hsb hcm m1 m2 m3 hcx h1 h2
        clear k1 k2 k3 hX hY hC hsum hsum' hxe hyd hde' lx ld ly le hd0 he0 hC0 hde hne
        (refine callOk_of_wpc (W := fun _ => false) false hm' Tryz.func52 rfl (by kernel_rfl) (Nat.le_of_ble_eq_true rfl) (go_start ?_); generalize hQ : Post Tryz.prog Tryz.f52 _ _ _ _ _ = Q; simp only [stIn, matL, matA, st00, natI,ratI])
        simp (disch := omega) only [go_sem, Nat.reduceEqDiff, Nat.reduceBEq, ↓reduceIte, reduceCtorEq, hsa, hsb, hcm, h1, h2, hcx, e1, m1, m2, m3]
        (repeat (with_reducible refine Or.inr ?_))
        rw [← hQ]
        exact post_cell1 (id := 2) (x := ratI (lowQ q (Y - X) C)) (.inl rfl) rfl o_iRat (by simp [upd_app] <;> omega) (by simp [upd_app]) (by simp [upd_app, natI, ratI, lowQ] <;> (intros; omega)) ld_iRat (by simp)
attribute [go_sem] w_add
attribute [go_sem] w_add
theorem w_sub {m n : Nat} {a b : Rat} (h : m + n ≤ 274877906944) : CW Tryz.prog 57 [rI m a, rI n b] (rI (m + n + 1) (a - b)) := by
 refine cw (by kernel_rfl) (by simp [AV.pure, AV.pureL]) (by simp [AV.pure, AV.pureL]) ?_
 rw [Rat.sub_eq_add_neg]
 (refine callOk_of_wpc (W := fun _ => false) false hm' Tryz.func57 rfl (by kernel_rfl) (Nat.le_of_ble_eq_true rfl) (go_start ?_); generalize hQ : Post Tryz.prog Tryz.f57 _ _ _ _ _ = Q; simp only [stIn, matL, matA, st00])
 simp (disch := omega) only [go_sem, Nat.reduceEqDiff, Nat.reduceBEq, ↓reduceIte, reduceCtorEq]
 (repeat (with_reducible refine Or.inr ?_))
 rw [← hQ]
 exact post_cell1 (id := 2) (x := rI (m + n + 1) (a + -b)) (.inl rfl) rfl o_iRat (by simp [upd_app] <;> omega) (by simp [upd_app]) (by simp [upd_app]) ld_iRat (by simp [AV.pure, AV.pureL])
attribute [go_sem] w_sub
theorem qd_ne {a : Rat} {p : Bool} {x d : Nat} (h : qd a = (p, x, d)) : (a.num ≠ 0 ↔ x ≠ 0) ∧ d ≠ 0 := by
  have h1 : a.num.natAbs = x := congrArg (·.2.1) h
  have h2 : a.den = d := congrArg (·.2.2) h
  exact ⟨by omega, by rw [← h2]; exact a.den_nz⟩
theorem less_of {a b : Rat} {p q : Bool} {x y d e : Nat} (ha : qd a = (p, x, d)) (hb : qd b = (q, y, e)) :
    (p ≠ q → decide (a < b) = p) ∧ (p = q → decide (a < b) = (!p && decide (cmpI (x * e) (y * d) < 0) || p && decide (cmpI (x * e) (y * d) > 0))) ∧ (decide (a = b) = (decide (p = q) && decide (cmpI (x * e) (y * d) = 0))) := by
  have hc := cmp_lt a b
  rw [ha, hb] at hc
  have hn : ∀ m n : Nat, cmpI m n = cmpN m n := fun m n => by simp [cmpI, cmpN]
  have sx : p = true → x ≠ 0 := by
    intro h
    have h1 : decide (a.num < 0) = p := congrArg (·.1) ha
    have h2 : a.num.natAbs = x := congrArg (·.2.1) ha
    rw [h] at h1; simp at h1; omega
  have sy : q = true → y ≠ 0 := by
    intro h
    have h1 : decide (b.num < 0) = q := congrArg (·.1) hb
    have h2 : b.num.natAbs = y := congrArg (·.2.1) hb
    rw [h] at h1; simp at h1; omega
  have hd := (qd_ne ha).2
  have he := (qd_ne hb).2
  simp only [cmpQ, sgnQ] at hc
  simp only [hn]
  have mx : x = 0 → x * e = 0 := fun h => by rw [h, Nat.zero_mul]
  have my : y = 0 → y * d = 0 := fun h => by rw [h, Nat.zero_mul]
  have nx : x ≠ 0 → 0 < x * e := fun h => Nat.mul_pos (by omega) (by omega)
  have ny : y ≠ 0 → 0 < y * d := fun h => Nat.mul_pos (by omega) (by omega)
  have hlt : decide (a < b) = decide (cmpQ (p, x, d) (q, y, e) < 0) := decide_eq_decide.2 (by simp only [cmpQ, sgnQ]; exact hc.1.symm)
  have heq : decide (a = b) = decide (cmpQ (p, x, d) (q, y, e) = 0) := decide_eq_decide.2 (by simp only [cmpQ, sgnQ]; exact hc.2.symm)
  rw [hlt, heq]
  simp only [cmpQ, sgnQ, cmpN]
  generalize x * e = X at *
  generalize y * d = Y at *
  clear hc hlt heq hn
  rcases Nat.lt_trichotomy X Y with h | h | h
  · have h1 : ¬ Y < X := by omega
    simp only [h, h1, if_true, if_false]
    by_cases x0 : x = 0 <;> by_cases y0 : y = 0 <;> cases p <;> cases q <;> simp_all <;> first | omega | exact ⟨rfl, rfl⟩ | rfl
  · have h1 : ¬ Y < X := by omega
    have h2 : ¬ X < Y := by omega
    simp only [h1, h2, if_false]
    by_cases x0 : x = 0 <;> by_cases y0 : y = 0 <;> cases p <;> cases q <;> simp_all <;> first | omega | exact ⟨rfl, rfl⟩ | rfl
  · have h1 : ¬ X < Y := by omega
    simp only [h, h1, if_true, if_false]
    by_cases x0 : x = 0 <;> by_cases y0 : y = 0 <;> cases p <;> cases q <;> simp_all <;> first | omega | exact ⟨rfl, rfl⟩ | rfl
theorem natS1 : natS 1 = .sl 2 [.int .i64 1] [] false := by simp [natS, enc_one B9_gt, natA]
theorem w_sCmp1 {a : Nat} (ha : (enc B9 a).length < 9223372036854775808) : CW Tryz.prog 40 [natS a, .sl 2 [.int .i64 1] [] true] (.int .i64 (cmpI a 1)) :=
 cw (by kernel_rfl) (by simp [AV.pure, AV.pureL]) (by simp [AV.pure, AV.pureL]) ((s_Cmp hm' a 1 ha (by rw [enc_one B9_gt]; decide)).args (SubL.cons (Sub.refl _) (SubL.cons (by rw [natS1]; exact sub_sl) .nil)))
attribute [go_sem] w_sCmp1
theorem w_sMake {b : Bool} {m n : Nat} (hm : (enc B9 m).length ≤ 1099511627775) (hn : (enc B9 n).length ≤ 1099511627775) (h0 : n ≠ 0) : CW Tryz.prog 65 [.bool b, natS m, natS n] (ratS (lowQ b m n)) := by
  refine cw (by kernel_rfl) (by simp [AV.pure, AV.pureL]) (by simp [AV.pure, AV.pureL]) ?_
  obtain ⟨g, hg⟩ : ∃ g, Nat.gcd m n = g := ⟨_, rfl⟩
  have hg0 : g ≠ 0 := by rw [← hg]; exact Nat.ne_of_gt (Nat.gcd_pos_of_pos_right _ (by omega))
  have hgn : (enc B9 g).length ≤ 1099511627775 := Nat.le_trans (enc_len_mono B9_gt (by rw [← hg]; exact Nat.le_of_dvd (by omega) (Nat.gcd_dvd_right m n))) hn
  have h2 := w_sGcd (a := m) (b := n) hm hn
  have h3 := w_sDiv (a := m) (b := g) hm hg0 hgn
  have h4 := w_sDiv (a := n) (b := g) hn hg0 hgn
  have h5 := w_sCmp1 (a := g) (by omega)
  rw [lowQ]
  rw [hg] at h2 ⊢
  simp only [natS] at h2 h3 h4 h5
  have hpos : ∀ k : Nat, (0 < (enc B9 k).length) ↔ k ≠ 0 := fun k => ⟨fun h e => by rw [e, enc_zero] at h; simp at h, fun h => enc_len_pos B9_gt h⟩
  have hfin : ∀ (x : Nat), (x ≠ 0 ↔ m ≠ 0) → (b && decide (m ≠ 0)) = (b && decide (0 < (enc B9 x).length)) := fun x h => by simp [hpos, h]
  by_cases h1g : g = 1
  · subst h1g
    rw [cmpI_eq] at h5
    rw [Nat.div_one, Nat.div_one, hfin m Iff.rfl]
    cases b
    · (refine callOk_of_wpc (W := fun _ => false) false hm' Tryz.func65 rfl (by kernel_rfl) (Nat.le_of_ble_eq_true rfl) (go_start ?_); generalize hQ : Post Tryz.prog Tryz.f65 _ _ _ _ _ = Q; simp only [stIn, matL, matA, st00, natS])
      simp (disch := omega) only [go_sem, Nat.reduceEqDiff, Nat.reduceBEq, ↓reduceIte, reduceCtorEq, h2, h5]
      (repeat (with_reducible refine Or.inr ?_))
      rw [← hQ]
      exact post_cell1 (id := 0) (x := .agg [.bool (false && decide (0 < (enc B9 m).length)), natS m, natS n]) (.inl rfl) rfl o_sRat (by simp [upd_app] <;> omega) (by simp [upd_app]) (by simp [upd_app, natS]) (by simp [ratS, ldA, partA, g_sRat, s_sRat, AV.cells]) (by simp [AV.pure, AV.pureL, natS_pure])
    · (refine callOk_of_wpc (W := fun _ => false) false hm' Tryz.func65 rfl (by kernel_rfl) (Nat.le_of_ble_eq_true rfl) (go_start ?_); generalize hQ : Post Tryz.prog Tryz.f65 _ _ _ _ _ = Q; simp only [stIn, matL, matA, st00, natS])
      simp (disch := omega) only [go_sem, Nat.reduceEqDiff, Nat.reduceBEq, ↓reduceIte, reduceCtorEq, h2, h5]
      (repeat (with_reducible refine Or.inr ?_))
      rw [← hQ]
      exact post_cell1 (id := 0) (x := .agg [.bool (true && decide (0 < (enc B9 m).length)), natS m, natS n]) (.inl rfl) rfl o_sRat (by simp [upd_app] <;> omega) (by simp [upd_app]) (by simp [upd_app, natS]) (by simp [ratS, ldA, partA, g_sRat, s_sRat, AV.cells]) (by simp [AV.pure, AV.pureL, natS_pure])
  · have hc0 : cmpI g 1 ≠ 0 := cmpI_ne (by omega)
    have hm0 : m / g ≠ 0 ↔ m ≠ 0 := by
      constructor
      · rintro h rfl; simp at h
      · intro h h'
        have := Nat.div_mul_cancel (by rw [← hg]; exact Nat.gcd_dvd_left m n : g ∣ m)
        rw [h'] at this; omega
    rw [hfin (m / g) hm0]
    have hdl := enc_div_len (B := B9) (m := m) (g := g) B9_gt
    cases b
    · (refine callOk_of_wpc (W := fun _ => false) false hm' Tryz.func65 rfl (by kernel_rfl) (Nat.le_of_ble_eq_true rfl) (go_start ?_); generalize hQ : Post Tryz.prog Tryz.f65 _ _ _ _ _ = Q; simp only [stIn, matL, matA, st00, natS])
      simp (disch := omega) only [go_sem, Nat.reduceEqDiff, Nat.reduceBEq, ↓reduceIte, reduceCtorEq, h2, h3, h4, h5]
      (repeat (with_reducible refine Or.inr ?_))
      rw [← hQ]
      exact post_cell1 (id := 0) (x := .agg [.bool (false && decide (0 < (enc B9 (m / g)).length)), natS (m / g), natS (n / g)]) (.inl rfl) rfl o_sRat (by simp [upd_app] <;> omega) (by simp [upd_app]) (by simp [upd_app, natS]) (by simp [ratS, ldA, partA, g_sRat, s_sRat, AV.cells]) (by simp [AV.pure, AV.pureL, natS_pure])
    · (refine callOk_of_wpc (W := fun _ => false) false hm' Tryz.func65 rfl (by kernel_rfl) (Nat.le_of_ble_eq_true rfl) (go_start ?_); generalize hQ : Post Tryz.prog Tryz.f65 _ _ _ _ _ = Q; simp only [stIn, matL, matA, st00, natS])
      simp (disch := omega) only [go_sem, Nat.reduceEqDiff, Nat.reduceBEq, ↓reduceIte, reduceCtorEq, h2, h3, h4, h5]
      (repeat (with_reducible refine Or.inr ?_))
      rw [← hQ]
      exact post_cell1 (id := 0) (x := .agg [.bool (true && decide (0 < (enc B9 (m / g)).length)), natS (m / g), natS (n / g)]) (.inl rfl) rfl o_sRat (by simp [upd_app] <;> omega) (by simp [upd_app]) (by simp [upd_app, natS]) (by simp [ratS, ldA, partA, g_sRat, s_sRat, AV.cells]) (by simp [AV.pure, AV.pureL, natS_pure])
attribute [go_sem] w_sMake
theorem w_sInt {n : Int} (h0 : -9223372036854775807 ≤ n) (h1 : n < 9223372036854775808) : CW Tryz.prog 42 [.int .i64 n] (rS 64 (n : Rat)) := by
  refine cw (by kernel_rfl) (by simp [AV.pure, AV.pureL]) (by simp [AV.pure, AV.pureL]) ?_
  rw [rS_eq (fits_int (by omega) (by omega)), qd_int, ratS]
  refine CallOk.res (r := .agg [.bool (decide (n < 0)), natS n.natAbs, .sl 2 [.int .i64 1] [] true]) ?_ (sub_agg (SubL.cons (Sub.refl _) (SubL.cons (Sub.refl _) (SubL.cons (by rw [natS1]; exact sub_sl) .nil))))
  by_cases hn : n < 0
  · have h3 := w_sNat (n := 0 - n) (by omega) (by omega)
    rw [show (0 - n).toNat = n.natAbs by omega] at h3
    simp only [natS] at h3
    (refine callOk_of_wpc (W := fun _ => false) false hm' Tryz.func42 rfl (by kernel_rfl) (Nat.le_of_ble_eq_true rfl) (go_start ?_); generalize hQ : Post Tryz.prog Tryz.f42 _ _ _ _ _ = Q; simp only [stIn, matL, matA, st00])
    simp (disch := omega) only [go_sem, Nat.reduceEqDiff, Nat.reduceBEq, ↓reduceIte, reduceCtorEq, h3]
    (repeat (with_reducible refine Or.inr ?_))
    rw [← hQ]
    exact post_cell1 (id := 0) (x := .agg [.bool (decide (n < 0)), natS n.natAbs, .sl 2 [.int .i64 1] [] true]) (.inl rfl) rfl o_sRat (by simp [upd_app] <;> omega) (by simp [upd_app]) (by simp [upd_app, natS, hn]) (by simp [ldA, partA, g_sRat, s_sRat, AV.cells]) (by simp [AV.pure, AV.pureL, natS_pure])
  · have h3 := w_sNat (n := n) (by omega) (by omega)
    rw [show n.toNat = n.natAbs by omega] at h3
    simp only [natS] at h3
    (refine callOk_of_wpc (W := fun _ => false) false hm' Tryz.func42 rfl (by kernel_rfl) (Nat.le_of_ble_eq_true rfl) (go_start ?_); generalize hQ : Post Tryz.prog Tryz.f42 _ _ _ _ _ = Q; simp only [stIn, matL, matA, st00])
    simp (disch := omega) only [go_sem, Nat.reduceEqDiff, Nat.reduceBEq, ↓reduceIte, reduceCtorEq, h3]
    (repeat (with_reducible refine Or.inr ?_))
    rw [← hQ]
    exact post_cell1 (id := 0) (x := .agg [.bool (decide (n < 0)), natS n.natAbs, .sl 2 [.int .i64 1] [] true]) (.inl rfl) rfl o_sRat (by simp [upd_app] <;> omega) (by simp [upd_app]) (by simp [upd_app, natS, hn]) (by simp [ldA, partA, g_sRat, s_sRat, AV.cells]) (by simp [AV.pure, AV.pureL, natS_pure])
attribute [go_sem] w_sInt
theorem int_cast_1 : ((1 : Int) : Rat) = 1 := rfl
theorem int_cast_0 : ((0 : Int) : Rat) = 0 := rfl
attribute [go_sem] w_sInt
theorem w_sOne : CW Tryz.prog 21 [] (rS 64 1) := by
 refine cw (by kernel_rfl) (by simp [AV.pure, AV.pureL]) (by simp [AV.pure, AV.pureL]) ?_
 (refine callOk_of_wpc (W := fun _ => false) false hm' Tryz.func21 rfl (by kernel_rfl) (Nat.le_of_ble_eq_true rfl) (go_start ?_); generalize hQ : Post Tryz.prog Tryz.f21 _ _ _ _ _ = Q; simp only [stIn, matL, matA, st00])
 simp (disch := omega) only [go_sem, Nat.reduceEqDiff, Nat.reduceBEq, ↓reduceIte, reduceCtorEq]
 (repeat (with_reducible refine Or.inr ?_))
 rw [← hQ]
 exact post_cell1 (id := 0) (x := rS 64 1) (.inl rfl) rfl o_sRat (by simp [upd_app] <;> omega) (by simp [upd_app]) (by simp [upd_app]) ld_sRat (by simp [AV.pure, AV.pureL])
attribute [go_sem] w_sOne
theorem w_sNone : CW Tryz.prog 43 [] (rS 64 0) := by
 refine cw (by kernel_rfl) (by simp [AV.pure, AV.pureL]) (by simp [AV.pure, AV.pureL]) ?_
 (refine callOk_of_wpc (W := fun _ => false) false hm' Tryz.func43 rfl (by kernel_rfl) (Nat.le_of_ble_eq_true rfl) (go_start ?_); generalize hQ : Post Tryz.prog Tryz.f43 _ _ _ _ _ = Q; simp only [stIn, matL, matA, st00])
 simp (disch := omega) only [go_sem, Nat.reduceEqDiff, Nat.reduceBEq, ↓reduceIte, reduceCtorEq]
 (repeat (with_reducible refine Or.inr ?_))
 rw [← hQ]
 exact post_cell1 (id := 0) (x := rS 64 0) (.inl rfl) rfl o_sRat (by simp [upd_app] <;> omega) (by simp [upd_app]) (by simp [upd_app]) ld_sRat (by simp [AV.pure, AV.pureL])
attribute [go_sem] w_sNone
theorem w_sZero {m : Nat} {a : Rat} (h : m ≤ 274877906944) : CW Tryz.prog 38 [rS m a] (.bool (decide (a = 0))) := by
  refine cw (by kernel_rfl) (by simp [AV.pure, AV.pureL]) (by simp [AV.pure, AV.pureL]) ?_
  refine callOk_told (x := rS m a) told_rS (by simp) (by simp [AV.pure, AV.pureL]) fun ha => ?_
  have hl := len9 ha.1
  rw [rS_eq ha, ratS, qd]
  by_cases h0 : a.num = 0
  · rw [show decide (a = 0) = true by simpa using num_zero.1 h0, h0]
    (refine callOk_of_wpc (W := fun _ => false) false hm' Tryz.func38 rfl (by kernel_rfl) (Nat.le_of_ble_eq_true rfl) (go_start ?_); generalize hQ : Post Tryz.prog Tryz.f38 _ _ _ _ _ = Q; simp only [stIn, matL, matA, st00, natS])
    simp (disch := omega) only [go_sem, Nat.reduceEqDiff, Nat.reduceBEq, ↓reduceIte, reduceCtorEq, Int.natAbs_zero, enc_zero, natA_nil, List.length_nil]
    rw [← hQ]
    exact post_one (.inl rfl) rfl (by simp [upd_app] <;> omega) rfl
  · rw [show decide (a = 0) = false by simpa using fun e => h0 (num_zero.2 e)]
    have hl0 := enc_len_pos B9_gt (show a.num.natAbs ≠ 0 by omega)
    (refine callOk_of_wpc (W := fun _ => false) false hm' Tryz.func38 rfl (by kernel_rfl) (Nat.le_of_ble_eq_true rfl) (go_start ?_); generalize hQ : Post Tryz.prog Tryz.f38 _ _ _ _ _ = Q; simp only [stIn, matL, matA, st00, natS])
    simp (disch := omega) only [go_sem, Nat.reduceEqDiff, Nat.reduceBEq, ↓reduceIte, reduceCtorEq]
    rw [← hQ]
    exact post_one (.inl rfl) rfl (by simp [upd_app] <;> omega) rfl
attribute [go_sem] w_sZero
theorem w_sNeg {m : Nat} {a : Rat} (h : m ≤ 274877906944) : CW Tryz.prog 39 [rS m a] (.bool (decide (a < 0))) := by
 refine cw (by kernel_rfl) (by simp [AV.pure, AV.pureL]) (by simp [AV.pure, AV.pureL]) ?_
 rw [← num_neg]
 (refine callOk_of_wpc (W := fun _ => false) false hm' Tryz.func39 rfl (by kernel_rfl) (Nat.le_of_ble_eq_true rfl) (go_start ?_); generalize hQ : Post Tryz.prog Tryz.f39 _ _ _ _ _ = Q; simp only [stIn, matL, matA, st00])
 simp (disch := omega) only [go_sem, Nat.reduceEqDiff, Nat.reduceBEq, ↓reduceIte, reduceCtorEq]
 rw [← hQ]
 exact post_one (.inl rfl) rfl (by simp [upd_app] <;> omega) rfl
attribute [go_sem] w_sNeg
theorem w_sOpposite {m : Nat} {a : Rat} (h : m ≤ 274877906944) : CW Tryz.prog 80 [rS m a] (rS m (-a)) := by
  refine cw (by kernel_rfl) (by simp [AV.pure, AV.pureL]) (by simp [AV.pure, AV.pureL]) ?_
  refine callOk_told (x := rS m a) told_rS (by simp) (by simp [AV.pure, AV.pureL]) fun ha => ?_
  have hl := len9 ha.1
  rw [rS_eq (fits_neg ha), qd_neg, rS_eq ha, ratS, qd, ratS]
  have hx : 0 < (enc B9 a.num.natAbs).length ↔ a.num.natAbs ≠ 0 := ⟨fun h e => by rw [e, enc_zero] at h; simp at h, fun h => enc_len_pos B9_gt h⟩
  by_cases hn : a.num < 0
  · simp only [hn, decide_true]
    (refine callOk_of_wpc (W := fun _ => false) false hm' Tryz.func80 rfl (by kernel_rfl) (Nat.le_of_ble_eq_true rfl) (go_start ?_); generalize hQ : Post Tryz.prog Tryz.f80 _ _ _ _ _ = Q; simp only [stIn, matL, matA, st00, natS])
    simp (disch := omega) only [go_sem, Nat.reduceEqDiff, Nat.reduceBEq, ↓reduceIte, reduceCtorEq]
    rw [← hQ]
    exact post_cell1 (id := 1) (x := .agg [.bool false, natS a.num.natAbs, natS a.den]) (.inl rfl) rfl o_sRat (by simp [upd_app] <;> omega) (by simp [upd_app]) (by simp [upd_app, natS]) (by simp [ldA, partA, g_sRat, s_sRat, AV.cells]) (by simp [AV.pure, AV.pureL, natS_pure])
  · simp only [hn, decide_false]
    by_cases h0 : a.num.natAbs = 0
    · rw [show decide (a.num.natAbs ≠ 0) = false by simp [h0]]
      (refine callOk_of_wpc (W := fun _ => false) false hm' Tryz.func80 rfl (by kernel_rfl) (Nat.le_of_ble_eq_true rfl) (go_start ?_); generalize hQ : Post Tryz.prog Tryz.f80 _ _ _ _ _ = Q; simp only [stIn, matL, matA, st00, natS])
      simp (disch := omega) only [go_sem, Nat.reduceEqDiff, Nat.reduceBEq, ↓reduceIte, reduceCtorEq]
      rw [← hQ]
      exact post_cell1 (id := 1) (x := .agg [.bool false, natS a.num.natAbs, natS a.den]) (.inl rfl) rfl o_sRat (by simp [upd_app] <;> omega) (by simp [upd_app]) (by simp [upd_app, natS]) (by simp [ldA, partA, g_sRat, s_sRat, AV.cells]) (by simp [AV.pure, AV.pureL, natS_pure])
    · rw [show decide (a.num.natAbs ≠ 0) = true by simp [h0]]
      (refine callOk_of_wpc (W := fun _ => false) false hm' Tryz.func80 rfl (by kernel_rfl) (Nat.le_of_ble_eq_true rfl) (go_start ?_); generalize hQ : Post Tryz.prog Tryz.f80 _ _ _ _ _ = Q; simp only [stIn, matL, matA, st00, natS])
      simp (disch := omega) only [go_sem, Nat.reduceEqDiff, Nat.reduceBEq, ↓reduceIte, reduceCtorEq]
      rw [← hQ]
      exact post_cell1 (id := 1) (x := .agg [.bool true, natS a.num.natAbs, natS a.den]) (.inl rfl) rfl o_sRat (by simp [upd_app] <;> omega) (by simp [upd_app]) (by simp [upd_app, natS]) (by simp [ldA, partA, g_sRat, s_sRat, AV.cells]) (by simp [AV.pure, AV.pureL, natS_pure])
attribute [go_sem] w_sOne w_sNone w_sZero w_sNeg w_sOpposite
attribute [go_sem] w_sOpposite
set_option maxHeartbeats 1000000 in
theorem w_sSum {m n : Nat} {a b : Rat} (h : m + n ≤ 274877906944) : CW Tryz.prog 44 [rS m a, rS n b] (rS (m + n + 1) (a + b)) := by
  refine cw (by kernel_rfl) (by simp [AV.pure, AV.pureL]) (by simp [AV.pure, AV.pureL]) ?_
  refine callOk_told (x := rS m a) told_rS (by simp) (by simp [AV.pure, AV.pureL]) fun ha => ?_
  refine callOk_told (x := rS n b) told_rS (by simp) (by simp [AV.pure, AV.pureL]) fun hb => ?_
  rw [rS_eq ha, rS_eq hb, rS_eq (fits_add ha hb)]
  have lx := len9 ha.1
  have ld := len9 ha.2
  have ly := len9 hb.1
  have le := len9 hb.2
  have hd0 := den_ne a
  have he0 := den_ne b
  have ea := self_mkRat a
  have eb := self_mkRat b
  have hxe : (enc B9 (a.num.natAbs * b.den)).length ≤ m + n := len9 (mul_lt_pow ha.1 hb.2)
  have hyd : (enc B9 (b.num.natAbs * a.den)).length ≤ m + n := by rw [Nat.add_comm m n]; exact len9 (mul_lt_pow hb.1 ha.2)
  have hde' : (enc B9 (a.den * b.den)).length ≤ m + n := len9 (mul_lt_pow ha.2 hb.2)
  have hsum : (enc B9 (a.num.natAbs * b.den + b.num.natAbs * a.den)).length ≤ m + n + 1 := by
    refine len9 ?_
    have h1 := mul_lt_pow ha.1 hb.2
    have h2 := mul_lt_pow hb.1 ha.2
    rw [Nat.add_comm n m] at h2
    rw [Nat.pow_succ]; omega
  simp only [qd] at ea eb
  obtain ⟨p, hp⟩ : ∃ p, decide (a.num < 0) = p := ⟨_, rfl⟩
  obtain ⟨q, hq⟩ : ∃ p, decide (b.num < 0) = p := ⟨_, rfl⟩
  obtain ⟨v, hv⟩ : ∃ v, qd (a + b) = v := ⟨_, rfl⟩
  have hr : qd a = (p, a.num.natAbs, a.den) ∧ qd b = (q, b.num.natAbs, b.den) := ⟨by rw [← hp]; rfl, by rw [← hq]; rfl⟩
  rw [hv, hr.1, hr.2]
  rw [hp] at ea; rw [hq] at eb
  clear hp hq hr ha hb
  obtain ⟨x, hx⟩ : ∃ x, a.num.natAbs = x := ⟨_, rfl⟩
  obtain ⟨y, hy⟩ : ∃ x, b.num.natAbs = x := ⟨_, rfl⟩
  obtain ⟨d, hd⟩ : ∃ x, a.den = x := ⟨_, rfl⟩
  obtain ⟨e, he⟩ : ∃ x, b.den = x := ⟨_, rfl⟩
  rw [hx, hd] at ea; rw [hy, he] at eb
  rw [hx] at lx hxe hsum; rw [hd] at ld hyd hde' hd0 hsum; rw [hy] at ly hyd hsum; rw [he] at le hxe hde' he0 hsum
  rw [hx, hy, hd, he]
  clear hx hy hd he
  have hne : ∀ {p q : Bool}, p ≠ q → (p == q) = false := by decide
  have m1 := w_sNatMul (a := x) (b := e) (by omega) (by omega)
  have m2 := w_sNatMul (a := y) (b := d) (by omega) (by omega)
  have m3 := w_sNatMul (a := d) (b := e) (by omega) (by omega)
  have hC0 : d * e ≠ 0 := Nat.mul_ne_zero hd0 he0
  rw [scale_mkRat he0] at ea
  rw [scale_mkRat hd0, Nat.mul_comm e d] at eb
  obtain ⟨k1, k2, k3⟩ := add_low hC0 ea eb
  rw [hv] at k1 k2 k3
  clear ea eb hv
  obtain ⟨X, hX⟩ : ∃ z, x * e = z := ⟨_, rfl⟩
  obtain ⟨Y, hY⟩ : ∃ z, y * d = z := ⟨_, rfl⟩
  obtain ⟨C, hC⟩ : ∃ z, d * e = z := ⟨_, rfl⟩
  rw [hX] at m1 k1 k2 k3 hxe hsum; rw [hY] at m2 k1 k2 k3 hyd hsum; rw [hC] at m3 k1 k2 k3 hC0 hde'
  by_cases hpq : p = q
  · subst hpq
    have h1 := w_sNatAdd (a := X) (b := Y) (by omega) (by omega)
    have h2 := w_sMake (b := p) (m := X + Y) (n := C) (by omega) (by omega) hC0
    rw [k1 rfl]
    simp only [natS, ratS] at m1 m2 m3 h1 h2
    (refine callOk_of_wpc (W := fun _ => false) false hm' Tryz.func44 rfl (by kernel_rfl) (Nat.le_of_ble_eq_true rfl) (go_start ?_); generalize hQ : Post Tryz.prog Tryz.f44 _ _ _ _ _ = Q; simp only [stIn, matL, matA, st00, natS,ratS])
    simp (disch := omega) only [go_sem, Nat.reduceEqDiff, Nat.reduceBEq, ↓reduceIte, reduceCtorEq, h1, h2, m1, m2, m3]
    (repeat (with_reducible refine Or.inr ?_))
    rw [← hQ]
    exact post_cell1 (id := 2) (x := ratS (lowQ p (X + Y) C)) (.inl rfl) rfl o_sRat (by simp [upd_app] <;> omega) (by simp [upd_app]) (by simp [upd_app, natS, ratS]) ld_sRat (by simp)
  · have hcx := w_sCmp (a := X) (b := Y) (by omega) (by omega)
    have e1 := hne hpq
    by_cases hxy : Y ≤ X
    · have h1 := w_sNatLess (a := X) (b := Y) (by omega) hxy
      have h2 := w_sMake (b := p) (m := X - Y) (n := C) (Nat.le_trans (enc_len_mono B9_gt (Nat.sub_le X Y)) (by omega)) (by omega) hC0
      have hc0 : 0 ≤ cmpI X Y := cmpI_ge hxy
      rw [k2 hpq hxy]
      simp only [natS, ratS] at m1 m2 m3 hcx h1 h2
      (refine callOk_of_wpc (W := fun _ => false) false hm' Tryz.func44 rfl (by kernel_rfl) (Nat.le_of_ble_eq_true rfl) (go_start ?_); generalize hQ : Post Tryz.prog Tryz.f44 _ _ _ _ _ = Q; simp only [stIn, matL, matA, st00, natS,ratS])
      simp (disch := omega) only [go_sem, Nat.reduceEqDiff, Nat.reduceBEq, ↓reduceIte, reduceCtorEq, h1, h2, hcx, e1, m1, m2, m3]
      (repeat (with_reducible refine Or.inr ?_))
      rw [← hQ]
      exact post_cell1 (id := 2) (x := ratS (lowQ p (X - Y) C)) (.inl rfl) rfl o_sRat (by simp [upd_app] <;> omega) (by simp [upd_app]) (by simp [upd_app, natS, ratS]) ld_sRat (by simp)
    · have h1 := w_sNatLess (a := Y) (b := X) (by omega) (by omega)
      have h2 := w_sMake (b := q) (m := Y - X) (n := C) (Nat.le_trans (enc_len_mono B9_gt (Nat.sub_le Y X)) (by omega)) (by omega) hC0
      have hc0 : cmpI X Y < 0 := by rw [cmpI_lt (by omega)]; omega
      rw [k3 hpq (by omega)]
      simp only [natS, ratS] at m1 m2 m3 hcx h1 h2
      (refine callOk_of_wpc (W := fun _ => false) false hm' Tryz.func44 rfl (by kernel_rfl) (Nat.le_of_ble_eq_true rfl) (go_start ?_); generalize hQ : Post Tryz.prog Tryz.f44 _ _ _ _ _ = Q; simp only [stIn, matL, matA, st00, natS,ratS])
      simp (disch := omega) only [go_sem, Nat.reduceEqDiff, Nat.reduceBEq, ↓reduceIte, reduceCtorEq, h1, h2, hcx, e1, m1, m2, m3]
      (repeat (with_reducible refine Or.inr ?_))
      rw [← hQ]
      exact post_cell1 (id := 2) (x := ratS (lowQ q (Y - X) C)) (.inl rfl) rfl o_sRat (by simp [upd_app] <;> omega) (by simp [upd_app]) (by simp [upd_app, natS, ratS]) ld_sRat (by simp)
attribute [go_sem] w_sSum
attribute [go_sem] w_sSum
theorem w_sMinus {m n : Nat} {a b : Rat} (h : m + n ≤ 274877906944) : CW Tryz.prog 68 [rS m a, rS n b] (rS (m + n + 1) (a - b)) := by
 refine cw (by kernel_rfl) (by simp [AV.pure, AV.pureL]) (by simp [AV.pure, AV.pureL]) ?_
 rw [Rat.sub_eq_add_neg]
 (refine callOk_of_wpc (W := fun _ => false) false hm' Tryz.func68 rfl (by kernel_rfl) (Nat.le_of_ble_eq_true rfl) (go_start ?_); generalize hQ : Post Tryz.prog Tryz.f68 _ _ _ _ _ = Q; simp only [stIn, matL, matA, st00])
 simp (disch := omega) only [go_sem, Nat.reduceEqDiff, Nat.reduceBEq, ↓reduceIte, reduceCtorEq]
 (repeat (with_reducible refine Or.inr ?_))
 rw [← hQ]
 exact post_cell1 (id := 2) (x := rS (m + n + 1) (a + -b)) (.inl rfl) rfl o_sRat (by simp [upd_app] <;> omega) (by simp [upd_app]) (by simp [upd_app]) ld_sRat (by simp [AV.pure, AV.pureL])
theorem parts_of {a : Rat} {m : Nat} (ha : fits m a) : ∃ p x d, qd a = (p, x, d) ∧ d ≠ 0 ∧ (a.num ≠ 0 ↔ x ≠ 0) ∧ x < 2 ^ m ∧ d < 2 ^ m ∧ Nat.gcd x d = 1 :=
 ⟨_, _, _, rfl, a.den_nz, by first | omega | (simp only; omega), ha.1, ha.2, a.reduced⟩
attribute [go_sem] w_sMinus
theorem w_sLess {m n : Nat} {a b : Rat} (h : m + n ≤ 274877906944) : CW Tryz.prog 20 [rS m a, rS n b] (.bool (decide (a < b))) := by
  refine cw (by kernel_rfl) (by simp [AV.pure, AV.pureL]) (by simp [AV.pure, AV.pureL]) ?_
  refine callOk_told (x := rS m a) told_rS (by simp) (by simp [AV.pure, AV.pureL]) fun ha => ?_
  refine callOk_told (x := rS n b) told_rS (by simp) (by simp [AV.pure, AV.pureL]) fun hb => ?_
  rw [rS_eq ha, rS_eq hb]
  obtain ⟨p, x, d, ea, hd0, _, hx, hd, _⟩ := parts_of ha
  obtain ⟨q, y, e, eb, he0, _, hy, he, _⟩ := parts_of hb
  obtain ⟨k1, k2, _⟩ := less_of ea eb
  rw [ea, eb]
  have m1 := w_sNatMul (a := x) (b := e) (by have := len9 hx; omega) (by have := len9 he; omega)
  have m2 := w_sNatMul (a := y) (b := d) (by have := len9 hy; omega) (by have := len9 hd; omega)
  have hc := w_sCmp (a := x * e) (b := y * d) (Nat.lt_of_le_of_lt (len9 (mul_lt_pow hx he)) (by omega)) (Nat.lt_of_le_of_lt (len9 (mul_lt_pow hy hd)) (by omega))
  simp only [natS] at m1 m2 hc
  by_cases hpq : p = q
  · subst hpq
    rw [k2 rfl]
    obtain ⟨c, hcc⟩ : ∃ c, cmpI (x * e) (y * d) = c := ⟨_, rfl⟩
    rw [hcc] at hc ⊢
    clear k1 k2
    rcases Int.lt_trichotomy c 0 with h0 | h0 | h0 <;> cases p
    all_goals
      (refine callOk_of_wpc (W := fun _ => false) false hm' Tryz.func20 rfl (by kernel_rfl) (Nat.le_of_ble_eq_true rfl) (go_start ?_); generalize hQ : Post Tryz.prog Tryz.f20 _ _ _ _ _ = Q; simp only [stIn, matL, matA, st00, natS,ratS])
      simp (disch := omega) only [go_sem, Nat.reduceEqDiff, Nat.reduceBEq, ↓reduceIte, reduceCtorEq, m1, m2, hc]
      (repeat (with_reducible refine Or.inr ?_))
      rw [← hQ]
      exact post_one (.inl rfl) rfl (by simp [upd_app] <;> omega) rfl
  · rw [k1 hpq]
    have e1 : (p != q) = true := by cases p <;> cases q <;> simp_all
    have e2 : (p == q) = false := by cases p <;> cases q <;> simp_all
    (refine callOk_of_wpc (W := fun _ => false) false hm' Tryz.func20 rfl (by kernel_rfl) (Nat.le_of_ble_eq_true rfl) (go_start ?_); generalize hQ : Post Tryz.prog Tryz.f20 _ _ _ _ _ = Q; simp only [stIn, matL, matA, st00, natS,ratS])
    simp (disch := omega) only [go_sem, Nat.reduceEqDiff, Nat.reduceBEq, ↓reduceIte, reduceCtorEq, e1, e2]
    (repeat (with_reducible refine Or.inr ?_))
    rw [← hQ]
    exact post_one (.inl rfl) rfl (by simp [upd_app] <;> omega) rfl
attribute [go_sem] w_sLess
def cmpR (a b : Rat) : Int := cmpQ (qd a) (qd b)
theorem cmpR_lt {a b : Rat} : cmpR a b < 0 ↔ a < b := (cmp_lt a b).1
theorem cmpR_eq {a b : Rat} : cmpR a b = 0 ↔ a = b := (cmp_lt a b).2
theorem cmpR_gt {a b : Rat} : 0 < cmpR a b ↔ b < a := by
  have h1 := cmpR_lt (a := a) (b := b)
  have h2 := cmpR_eq (a := a) (b := b)
  constructor
  · intro h
    rcases Classical.em (b < a) with h' | h'
    · exact h'
    · have := Rat.not_lt.1 h'
      rcases Rat.le_iff_lt_or_eq.1 this with h3 | h3
      · have := h1.2 h3; omega
      · have := h2.2 h3; omega
  · intro h
    have n1 : ¬ cmpR a b < 0 := fun h' => Rat.not_lt.2 (Rat.le_of_lt h) (h1.1 h')
    have n2 : ¬ cmpR a b = 0 := fun h' => by rw [h2.1 h'] at h; exact Rat.lt_irrefl h
    omega
theorem w_cmp {m n : Nat} {a b : Rat} (h : m + n ≤ 274877906944) : CW Tryz.prog 30 [rI m a, rI n b] (.int .i64 (cmpR a b)) := by
  refine cw (by kernel_rfl) (by simp [AV.pure, AV.pureL]) (by simp [AV.pure, AV.pureL]) ?_
  refine callOk_told (x := rI m a) told_rI (by simp) (by simp [AV.pure, AV.pureL]) fun ha => ?_
  refine callOk_told (x := rI n b) told_rI (by simp) (by simp [AV.pure, AV.pureL]) fun hb => ?_
  have hsa := w_sign (a := a) (m := m) (by omega)
  have hsb := w_sign (a := b) (m := n) (by omega)
  rw [rI_eq ha] at hsa
  rw [rI_eq hb] at hsb
  have e1 := sgnQ_qd a
  have e2 := sgnQ_qd b
  obtain ⟨p, x, d, ea, hd0, hx0, hx, hd, hg1⟩ := parts_of ha
  obtain ⟨q, y, e, eb, he0, hy0, hy, he, hg2⟩ := parts_of hb
  have b1 : a.num.sign = -1 ∨ a.num.sign = 0 ∨ a.num.sign = 1 := by rcases Int.lt_trichotomy a.num 0 with h | h | h <;> simp [h, Int.sign_eq_neg_one_of_neg, Int.sign_eq_one_of_pos]
  have b2 : b.num.sign = -1 ∨ b.num.sign = 0 ∨ b.num.sign = 1 := by rcases Int.lt_trichotomy b.num 0 with h | h | h <;> simp [h, Int.sign_eq_neg_one_of_neg, Int.sign_eq_one_of_pos]
  rw [ea] at hsa e1; rw [eb] at hsb e2
  rw [cmpR, cmpQ, rI_eq ha, rI_eq hb, ea, eb, e1, e2]
  generalize a.num.sign = s at *
  generalize b.num.sign = t at *
  have m1 := w_natMul (a := x) (b := e) (by have := len32 hx; omega) (by have := len32 he; omega)
  have m2 := w_natMul (a := y) (b := d) (by have := len32 hy; omega) (by have := len32 hd; omega)
  have hc := w_natCmp (a := x * e) (b := y * d) (Nat.lt_of_le_of_lt (len32 (mul_lt_pow hx he)) (by omega)) (Nat.lt_of_le_of_lt (len32 (mul_lt_pow hy hd)) (by omega))
  have hn : cmpN (x * e) (y * d) = cmpI (x * e) (y * d) := by simp [cmpI, cmpN]
  have b3 : cmpI (x * e) (y * d) = -1 ∨ cmpI (x * e) (y * d) = 0 ∨ cmpI (x * e) (y * d) = 1 := by
    rcases Nat.lt_trichotomy (x * e) (y * d) with h | h | h
    · left; exact cmpI_lt h
    · right; left; rw [h]; exact cmpI_eq _
    · right; right; exact cmpI_gt h
  simp only [hn]
  generalize cmpI (x * e) (y * d) = c at *
  simp only [ratI, natI] at hsa hsb m1 m2 hc
  clear hn hx hy hd he hx0 hy0 hg1 hg2 ea eb ha hb hd0 he0 e1 e2
  by_cases hst : s = t
  · subst hst
    rw [if_neg (by simp)]
    cases p
    · rw [if_neg (by simp)]
      (refine callOk_of_wpc (W := fun _ => false) false hm' Tryz.func30 rfl (by kernel_rfl) (Nat.le_of_ble_eq_true rfl) (go_start ?_); generalize hQ : Post Tryz.prog Tryz.f30 _ _ _ _ _ = Q; simp only [stIn, matL, matA, st00, natI,ratI])
      simp (disch := omega) only [go_sem, Nat.reduceEqDiff, Nat.reduceBEq, ↓reduceIte, reduceCtorEq, hsa, hsb, m1, m2, hc]
      (repeat (with_reducible refine Or.inr ?_))
      rw [← hQ]
      exact post_one (.inl rfl) rfl (by simp [upd_app] <;> omega) rfl
    · rw [if_pos rfl]
      (refine callOk_of_wpc (W := fun _ => false) false hm' Tryz.func30 rfl (by kernel_rfl) (Nat.le_of_ble_eq_true rfl) (go_start ?_); generalize hQ : Post Tryz.prog Tryz.f30 _ _ _ _ _ = Q; simp only [stIn, matL, matA, st00, natI,ratI])
      simp (disch := omega) only [go_sem, Nat.reduceEqDiff, Nat.reduceBEq, ↓reduceIte, reduceCtorEq, hsa, hsb, m1, m2, hc]
      (repeat (with_reducible refine Or.inr ?_))
      rw [← hQ]
      exact post_one (.inl rfl) rfl (by simp [upd_app]) rfl
  · rw [if_pos hst]
    (refine callOk_of_wpc (W := fun _ => false) false hm' Tryz.func30 rfl (by kernel_rfl) (Nat.le_of_ble_eq_true rfl) (go_start ?_); generalize hQ : Post Tryz.prog Tryz.f30 _ _ _ _ _ = Q; simp only [stIn, matL, matA, st00, natI,ratI])
    simp (disch := omega) only [go_sem, Nat.reduceEqDiff, Nat.reduceBEq, ↓reduceIte, reduceCtorEq, hsa, hsb]
    (repeat (with_reducible refine Or.inr ?_))
    rw [← hQ]
    exact post_one (.inl rfl) rfl (by simp [upd_app]) rfl
attribute [go_sem] w_cmp
attribute [go_sem] w_cmp
theorem w_isMinus {m : Nat} {a : Rat} (h : m ≤ 274877906944) : CW Tryz.prog 28 [rI m a] (.bool (decide (a < 0))) := by
  refine cw (by kernel_rfl) (by simp [AV.pure, AV.pureL]) (by simp [AV.pure, AV.pureL]) ?_
  rw [← num_neg]
  have b1 : decide (a.num < 0) = decide (a.num.sign < 0) := by
    rcases Int.lt_trichotomy a.num 0 with h | h | h
    · rw [Int.sign_eq_neg_one_of_neg h]; simp [h]
    · rw [h]; rfl
    · rw [Int.sign_eq_one_of_pos h]; exact decide_eq_decide.2 (by omega)
  have hsa := w_sign (a := a) (m := m) (by omega)
  simp only [rI] at hsa
  rw [b1]
  rw [b1] at hsa
  generalize decide (a.num.sign < 0) = p at *
  (refine callOk_of_wpc (W := fun _ => false) false hm' Tryz.func28 rfl (by kernel_rfl) (Nat.le_of_ble_eq_true rfl) (go_start ?_); generalize hQ : Post Tryz.prog Tryz.f28 _ _ _ _ _ = Q; simp only [stIn, matL, matA, st00])
  simp (disch := omega) only [go_sem, Nat.reduceEqDiff, Nat.reduceBEq, ↓reduceIte, reduceCtorEq, hsa]
  (repeat (with_reducible refine Or.inr ?_))
  rw [← hQ]
  exact post_one (.inl rfl) rfl (by simp [upd_app] <;> omega) rfl
attribute [go_sem] w_isMinus
attribute [go_sem] int_cast_0 int_cast_1
def sumL (qs : List Rat) : Rat := qs.foldl (· + ·) 0
theorem sumL_snoc {qs : List Rat} {q : Rat} : sumL (qs ++ [q]) = sumL qs + q := by simp [sumL]
theorem sumL_take {qs : List Rat} {i : Nat} {q : Rat} (h : qs[i]? = some q) : sumL (qs.take (i + 1)) = sumL (qs.take i) + q := by rw [List.take_add_one, h]; exact sumL_snoc
theorem c_sum {m : Nat} {qs : List Rat} (hm : m ≤ 100000) (hl : qs.length ≤ 1000) : CallOk Tryz.prog 29 [lI m qs] (rI (64 + qs.length * (m + 1)) (sumL qs)) [] := by
  obtain ⟨n, hn⟩ : ∃ n, qs.length = n := ⟨_, rfl⟩
  rw [hn] at hl ⊢
  (refine callOk_of_wpc (W := fun _ => false) false hm' Tryz.func29 rfl (by kernel_rfl) (Nat.le_of_ble_eq_true rfl) (go_start ?_); generalize hQ : Post Tryz.prog Tryz.f29 _ _ _ _ _ = Q; simp only [stIn, matL, matA, st00])
  simp (disch := omega) only [go_sem, Nat.reduceEqDiff, Nat.reduceBEq, ↓reduceIte, reduceCtorEq, hn]
  (repeat (with_reducible refine Or.inr ?_))
  refine k_loop (fun (i : Nat) st => st.fr 0 = lI m qs ∧ st.fr 2 = .ptr 0 1 0 0 ∧ st.fr 3 = .ptr 1 1 0 0 ∧ st.fr 7 = lI m qs ∧ st.fr 8 = .int .i64 n ∧ st.fr 9 = .int .i64 i ∧ st.h 0 = ⟨70, [.agg [.bool false, .nil, .nil]], true, false, true⟩ ∧ st.h 1 = ⟨70, [rI (64 + i * (m + 1)) (sumL (qs.take i))], true, false, true⟩ ∧ 1 < st.nx ∧ (i ≤ n)) (fun (i : Nat) => n - i) (0)
    ⟨(by simp [upd_app, sumL] <;> omega), (by simp [upd_app, sumL] <;> omega), (by simp [upd_app, sumL] <;> omega), (by simp [upd_app, sumL] <;> omega), (by simp [upd_app, sumL] <;> omega), (by simp [upd_app, sumL] <;> omega), (by simp [upd_app, sumL] <;> omega), (by simp [upd_app, sumL] <;> omega), (by simp <;> omega), by omega⟩ ?_
  rintro i ⟨fr, h, nx⟩ ⟨g0, g2, g3, g7, g8, g9, hm0, hm1, hnx, hi⟩ J hJ
  simp only at g0 g2 g3 g7 g8 g9 hm0 hm1 hnx
  by_cases hin : i < n
  · obtain ⟨q, hq⟩ := get_some (xs := qs) (i := i) (by omega)
    have hb : i * (m + 1) ≤ 1000 * 100001 := Nat.mul_le_mul (by omega) (by omega)
    have e : 64 + (i + 1) * (m + 1) = 64 + i * (m + 1) + m + 1 := by rw [Nat.add_mul]; omega
    have key := hJ (i + 1)
    rw [sumL_take hq, e] at key
    simp (disch := omega) only [go_sem, Nat.reduceEqDiff, Nat.reduceBEq, ↓reduceIte, reduceCtorEq, g0, g2, g3, g7, g8, g9, hm0, hm1, hq, hn]
    (repeat (with_reducible refine Or.inr ?_))
    exact key _ ⟨(by simp [upd_app, g0] <;> omega), (by simp [upd_app, g2] <;> omega), (by simp [upd_app, g3] <;> omega), (by simp [upd_app, g7] <;> omega), (by simp [upd_app, g8] <;> omega), (by simp [upd_app] <;> omega), (by simp [upd_app, hm0] <;> omega), (by simp [upd_app] <;> omega), (by simp <;> omega), hin⟩ (by omega)
  · obtain rfl : i = n := by omega
    rw [List.take_of_length_le (by omega)] at hm1
    simp (disch := omega) only [go_sem, Nat.reduceEqDiff, Nat.reduceBEq, ↓reduceIte, reduceCtorEq, g0, g2, g3, g7, g8, g9, hm0, hm1, hn]
    (repeat (with_reducible refine Or.inr ?_))
    rw [← hQ]
    exact post_cell1 (id := 0) (x := rI (64 + i * (m + 1)) (sumL qs)) (.inl rfl) rfl o_iRat (by simp [upd_app, g2] <;> omega) (by simp [upd_app]) (by simp [upd_app]) ld_iRat (by simp [AV.pure, AV.pureL])
attribute [go_sem] w_isMinus
theorem w_sum {m : Nat} {qs : List Rat} (hm : m ≤ 100000) (hl : qs.length ≤ 1000) : CW Tryz.prog 29 [lI m qs] (rI (64 + qs.length * (m + 1)) (sumL qs)) :=
 cw (by kernel_rfl) (by simp [AV.pure, AV.pureL]) (by simp [AV.pure, AV.pureL]) (c_sum hm hl)
attribute [go_sem] w_sum
theorem x_nilCheck {P : Program} {W : FuncId → Bool} {ops : Array Oper} {os : List Oper} {fr : Nat → AV} {h : Nat → Blk} {nx : Nat} {K : St → Prop} {d t : Nat} {p : String} {af : Array Edge} {x : Operand} : wpos P W ops (⟨some d, .nilCheck x, t, p, af, none⟩ :: os) ⟨fr, h, nx⟩ K = match evA fr x with
  | .ptr id n i j => wpos P W ops os ⟨upd fr d (.ptr id n i j), h, nx⟩ K
  | .cptr t v j => wpos P W ops os ⟨upd fr d (.cptr t v j), h, nx⟩ K
  | _ => False := by
 rw [x_plain (by intros; simp)]; simp only [evalOp, ev_mk]; cases evA fr x <;> rfl
attribute [go_sem ↓] x_nilCheck
def parseR (s : List UInt8) : Option Rat := (parseQ s).map fun t => mkRat (sg t.1 t.2.1) t.2.2
theorem dval_ten {s : List UInt8} (h : ∀ c ∈ s, isDig c = true) : dval s < 10 ^ s.length := by
 have hl : ∀ (l : List UInt8), (∀ c ∈ l, isDig c = true) → dval l < 10 ^ l.length := by
  intro l
  induction l with
  | nil => intro _; simp [dval]
  | cons c l ih =>
   intro h
   have h1 := dval_append [c] l
   have h2 : dval [c] = c.toNat - 48 := by simp [dval]
   have h3 := h c (by simp)
   simp only [isDig, Bool.and_eq_true, decide_eq_true_eq] at h3
   have h4 := ih (fun d hd => h d (by simp [hd]))
   simp only [List.singleton_append] at h1
   rw [h1, h2, List.length_cons, Nat.pow_succ]
   have : (c.toNat - 48) * 10 ^ l.length ≤ 9 * 10 ^ l.length := Nat.mul_le_mul_right _ (by omega)
   omega
 exact hl s h
theorem ten_pow {k j n : Nat} (h1 : k ≤ 3 * j) (h2 : 10 * j < n) : 10 ^ k < 2 ^ n := by
 have h3 : 10 ^ k ≤ 10 ^ (3 * j) := Nat.pow_le_pow_right (by decide) h1
 have h4 : (10 ^ 3) ^ j ≤ (2 ^ 10) ^ j := Nat.pow_le_pow_left (by decide) j
 rw [← Nat.pow_mul, ← Nat.pow_mul] at h4
 exact Nat.lt_of_le_of_lt (Nat.le_trans h3 h4) (Nat.pow_lt_pow_right (by decide) h2)
theorem one_pow {n : Nat} (h : n ≠ 0) : 1 < 2 ^ n := Nat.one_lt_two_pow h
theorem ten_two {k : Nat} (h : k ≤ 200) : 10 ^ k < 2 ^ 700 := ten_pow (j := 67) (n := 700) (by omega) (by omega)
theorem parse_parts {s : List UInt8} {b : Bool} {m n : Nat} (h : parseQ s = some (b, m, n)) : n ≠ 0 ∧ (b = true → m ≠ 0) ∧ Nat.gcd m n = 1 ∧ m < 2 ^ 700 ∧ n < 2 ^ 700 := by
  unfold parseQ at h
  split at h
  · rename_i hc
    obtain ⟨h1, h2⟩ := hc
    obtain ⟨_, hl, hd⟩ := tok_len h1
    have hm := Nat.lt_trans (dval_ten hd) (ten_two hl)
    split at h
    · simp only [Option.some.injEq, Prod.mk.injEq] at h
      obtain ⟨rfl, rfl, rfl⟩ := h
      exact ⟨by decide, fun hb h0 => h2 ⟨hb, h0⟩, Nat.gcd_one_right _, hm, one_pow (n := 700) (by decide)⟩
    · split at h
      · rename_i i _ hc2
        obtain ⟨k1, k2, k3⟩ := hc2
        obtain ⟨_, hl2, hd2⟩ := tok_len k1
        simp only [Option.some.injEq, Prod.mk.injEq] at h
        obtain ⟨rfl, rfl, rfl⟩ := h
        exact ⟨by omega, fun hb h0 => h2 ⟨hb, h0⟩, k3, hm, Nat.lt_trans (dval_ten hd2) (ten_two hl2)⟩
      · cases h
  · cases h
theorem parse_qd {s : List UInt8} {t : Qd} (h : parseQ s = some t) : ∃ q, parseR s = some q ∧ qd q = t ∧ fits 700 q := by
  obtain ⟨b, m, n⟩ := t
  obtain ⟨h1, h2, h3, h4, h5⟩ := parse_parts h
  have e : qd (mkRat (sg b m) n) = (b, m, n) := by rw [qd_mkRat b m n h1, h3, Nat.div_one, Nat.div_one]; clear h4 h5 h; cases b <;> simp_all
  refine ⟨_, by simp only [parseR, h, Option.map_some], e, ?_⟩
  have e1 : (mkRat (sg b m) n).num.natAbs = m := congrArg (·.2.1) e
  have e2 : (mkRat (sg b m) n).den = n := congrArg (·.2.2) e
  exact ⟨by rw [e1]; exact h4, by rw [e2]; exact h5⟩
theorem parse_none {s : List UInt8} (h : parseQ s = none) : parseR s = none := by simp [parseR, h]
def optI : Option Rat → AV
 | some q => .tup [rI 700 q, .bool true]
 | none => .tup [.agg [.bool false, .nil, .nil], .bool false]
def optS : Option Rat → AV
 | some q => .tup [rS 700 q, .bool true]
 | none => .tup [.agg [.bool false, .nil, .nil], .bool false]
def optLI : Option (List Rat) → AV
 | some q => .tup [lI 700 q, .bool true]
 | none => .tup [.nil, .bool false]
def optLS : Option (List Rat) → AV
 | some q => .tup [lS 700 q, .bool true]
 | none => .tup [.nil, .bool false]
@[simp] theorem optI_pure (o : Option Rat) : (optI o).pure = true := by cases o <;> simp [optI, AV.pure, AV.pureL]
@[simp] theorem optLI_pure (o : Option (List Rat)) : (optLI o).pure = true := by cases o <;> simp [optLI, AV.pure, AV.pureL]
@[simp] theorem optLS_pure (o : Option (List Rat)) : (optLS o).pure = true := by cases o <;> simp [optLS, AV.pure, AV.pureL]
theorem optI_s (q : Rat) : optI (some q) = .tup [rI 700 q, .bool true] := rfl
theorem optI_n : optI none = .tup [.agg [.bool false, .nil, .nil], .bool false] := rfl
theorem optS_s (q : Rat) : optS (some q) = .tup [rS 700 q, .bool true] := rfl
theorem optS_n : optS none = .tup [.agg [.bool false, .nil, .nil], .bool false] := rfl
theorem optLI_s (q : List Rat) : optLI (some q) = .tup [lI 700 q, .bool true] := rfl
theorem optLI_n : optLI none = .tup [.nil, .bool false] := rfl
theorem optLS_s (q : List Rat) : optLS (some q) = .tup [lS 700 q, .bool true] := rfl
theorem optLS_n : optLS none = .tup [.nil, .bool false] := rfl
attribute [go_sem] optI_s optI_n optS_s optS_n optLI_s optLI_n optLS_s optLS_n List.drop_succ_cons
theorem w_readRat {s : List UInt8} (hs : s.length < 9223372036854775808) : CW Tryz.prog 48 [.str s] (optI (parseR s)) := by
 refine cw (by kernel_rfl) (by simp [AV.pure, AV.pureL]) (by simp [AV.pure, AV.pureL]) ?_
 have h := i_readRat s hs
 unfold readRatV at h
 cases hq : parseQ s with
 | none => rw [hq] at h; rw [parse_none hq]; exact h
 | some t =>
  obtain ⟨q, h1, h2, h3⟩ := parse_qd hq
  rw [hq] at h
  rw [h1, optI_s, rI_eq h3, h2]; exact h
attribute [go_sem] w_readRat
theorem mapM_qd : ∀ (xs : List (List UInt8)), match xs.mapM parseQ with
  | some ts => ∃ qs, xs.mapM parseR = some qs ∧ qs.map qd = ts ∧ ∀ q ∈ qs, fits 700 q
  | none => xs.mapM parseR = none
 | [] => ⟨[], rfl, rfl, by simp⟩
 | x :: xs => by
  have ih := mapM_qd xs
  rw [List.mapM_cons, List.mapM_cons]
  cases hq : parseQ x with
  | none => rw [parse_none hq]; rfl
  | some t =>
   obtain ⟨q, h1, h2, h3⟩ := parse_qd hq
   rw [h1]
   cases hxs : xs.mapM parseQ with
   | none => rw [hxs] at ih; simp [hxs, ih]
   | some ts =>
    rw [hxs] at ih
    obtain ⟨qs, g1, g2, g3⟩ := ih
    simp only [Option.bind_eq_bind, Option.bind_some, g1, pure]
    exact ⟨q :: qs, rfl, by simp [h2, g2], by intro y hy; rcases List.mem_cons.1 hy with rfl | hy; exact h3; exact g3 y hy⟩
def listR (xs : List (List UInt8)) : Option (List Rat) := if 300 < xs.length then none else xs.mapM parseR
theorem list_qd (xs : List (List UInt8)) : match listQ xs with
    | some ts => ∃ qs, listR xs = some qs ∧ qs.map qd = ts ∧ ∀ q ∈ qs, fits 700 q
    | none => listR xs = none := by
  have h := mapM_qd xs
  unfold listQ listR
  by_cases hl : 300 < xs.length
  · rw [if_pos hl, if_pos hl]
  · rw [if_neg hl, if_neg hl]; exact h
theorem ratI_list {qs : List Rat} (h : ∀ q ∈ qs, fits 700 q) : (qs.map qd).map ratI = ratL 700 qs := by
 rw [List.map_map]; exact List.map_congr_left fun q hq => (rI_eq (h q hq)).symm
theorem ratS_list {qs : List Rat} (h : ∀ q ∈ qs, fits 700 q) : (qs.map qd).map ratS = ratM 700 qs := by
 rw [List.map_map]; exact List.map_congr_left fun q hq => (rS_eq (h q hq)).symm
theorem w_rats {xs : List (List UInt8)} (hl : xs.length < 9223372036854775808) (hs : ∀ x ∈ xs, x.length < 9223372036854775808) : CW Tryz.prog 25 [.sl 9 (strA xs) [] false] (optLI (listR xs)) := by
 refine cw (by kernel_rfl) (by simp [AV.pure, AV.pureL]) (by simp [AV.pure, AV.pureL]) ?_
 have h := i_rats xs hl hs
 have k := list_qd xs
 unfold listI at h
 cases hq : listQ xs with
 | none => rw [hq] at h k; rw [k]; exact h
 | some ts =>
  rw [hq] at h k
  obtain ⟨qs, h1, h2, h3⟩ := k
  rw [h1, optLI_s]
  simp only [ratsI, ← h2, ratI_list h3] at h
  exact h
attribute [go_sem] w_rats
theorem w_sList {xs : List (List UInt8)} (hl : xs.length < 9223372036854775808) (hs : ∀ x ∈ xs, x.length ≤ 1000000) : CW Tryz.prog 17 [.sl 9 (strA xs) [] false] (optLS (listR xs)) := by
 refine cw (by kernel_rfl) (by simp [AV.pure, AV.pureL]) (by simp [AV.pure, AV.pureL]) ?_
 have h := s_List xs hl hs
 have k := list_qd xs
 unfold listS at h
 cases hq : listQ xs with
 | none => rw [hq] at h k; rw [k]; exact h
 | some ts =>
  rw [hq] at h k
  obtain ⟨qs, h1, h2, h3⟩ := k
  rw [h1, optLS_s]
  simp only [ratsS, ← h2, ratS_list h3] at h
  exact h
attribute [go_sem] w_sList
def rowsT (rs : List (List (List UInt8))) : List AV := rs.map fun r => .sl 9 (strA r) [] false
theorem rowsT_len {rs : List (List (List UInt8))} : (rowsT rs).length = rs.length := by simp [rowsT]
theorem rowsT_at {rs : List (List (List UInt8))} {i : Nat} {r : List (List UInt8)} (h : rs[i]? = some r) : (rowsT rs)[i]? = some (.sl 9 (strA r) [] false) := by simp [rowsT, h]
def textsOk (xs : List (List UInt8)) : Prop := xs.length ≤ 1000000 ∧ ∀ x ∈ xs, x.length ≤ 1000000
theorem rowsT_pure {rs : List (List (List UInt8))} : AV.pureL (rowsT rs) = true := by
 induction rs with
 | nil => rfl
 | cons r rs ih => simpa [rowsT, AV.pureL, AV.pure, strA_pure] using ih
theorem t_rows : elT Tryz.prog 44 = some 43 := by kernel_rfl
theorem o_rats : okT Tryz.prog 43 = true := by kernel_rfl
theorem g_rats : aggT Tryz.prog 43 = false := by kernel_rfl
theorem in_rats : (Tryz.prog.info? 43).isSome = true := by kernel_rfl
theorem s_rats : szT Tryz.prog 43 = 1 := by kernel_rfl
theorem zk_rats : zokT Tryz.prog 43 = true := by kernel_rfl
theorem u_rats : u32T Tryz.prog 43 = false := by kernel_rfl
theorem el_rats {t : Nat} {xs sp : List AV} {ex : Bool} : AV.el Tryz.prog 43 (.sl t xs sp ex) = true := by simp [AV.el, s_rats, AV.cells, AV.one]
attribute [go_sem] t_rows o_rats g_rats in_rats s_rats zk_rats u_rats el_rats
theorem z_rats : zeroA Tryz.prog 43 = some .nil := by kernel_rfl
attribute [go_sem] z_rats
theorem t_rowsS : elT Tryz.prog 35 = some 34 := by kernel_rfl
theorem o_ratsS : okT Tryz.prog 34 = true := by kernel_rfl
theorem g_ratsS : aggT Tryz.prog 34 = false := by kernel_rfl
theorem in_ratsS : (Tryz.prog.info? 34).isSome = true := by kernel_rfl
theorem s_ratsS : szT Tryz.prog 34 = 1 := by kernel_rfl
theorem zk_ratsS : zokT Tryz.prog 34 = true := by kernel_rfl
theorem u_ratsS : u32T Tryz.prog 34 = false := by kernel_rfl
theorem el_ratsS {t : Nat} {xs sp : List AV} {ex : Bool} : AV.el Tryz.prog 34 (.sl t xs sp ex) = true := by simp [AV.el, s_ratsS, AV.cells, AV.one]
attribute [go_sem] t_rowsS o_ratsS g_ratsS in_ratsS s_ratsS zk_ratsS u_ratsS el_ratsS
theorem z_ratsS : zeroA Tryz.prog 34 = some .nil := by kernel_rfl
theorem el_ratsNS : AV.el Tryz.prog 34 .nil = true := by simp [AV.el, s_ratsS, AV.cells, AV.one]
attribute [go_sem] z_ratsS el_ratsNS
theorem b_rats : byT Tryz.prog 43 = 24 := by kernel_rfl
theorem o_rows : okT Tryz.prog 44 = true := by kernel_rfl
theorem g_rows : aggT Tryz.prog 44 = false := by kernel_rfl
theorem in_rows : (Tryz.prog.info? 44).isSome = true := by kernel_rfl
theorem s_rows : szT Tryz.prog 44 = 1 := by kernel_rfl
theorem zk_rows : zokT Tryz.prog 44 = true := by kernel_rfl
theorem u_rows : u32T Tryz.prog 44 = false := by kernel_rfl
theorem z_rows : zeroA Tryz.prog 44 = some .nil := by kernel_rfl
attribute [go_sem] b_rats o_rows g_rows in_rows s_rows zk_rows u_rows z_rows
theorem o_rowsS : okT Tryz.prog 35 = true := by kernel_rfl
theorem g_rowsS : aggT Tryz.prog 35 = false := by kernel_rfl
theorem in_rowsS : (Tryz.prog.info? 35).isSome = true := by kernel_rfl
theorem s_rowsS : szT Tryz.prog 35 = 1 := by kernel_rfl
theorem zk_rowsS : zokT Tryz.prog 35 = true := by kernel_rfl
theorem u_rowsS : u32T Tryz.prog 35 = false := by kernel_rfl
theorem z_rowsS : zeroA Tryz.prog 35 = some .nil := by kernel_rfl
theorem el_rowsRS {a b c d : Nat} : AV.el Tryz.prog 35 (.ref a b c d) = true := by simp [AV.el, s_rowsS, AV.cells, AV.one]
attribute [go_sem] o_rowsS g_rowsS in_rowsS s_rowsS zk_rowsS u_rowsS z_rowsS el_rowsRS
theorem b_ratsS : byT Tryz.prog 34 = 24 := by kernel_rfl
attribute [go_sem] b_ratsS
theorem s_int : szT Tryz.prog 3 = 1 := by kernel_rfl
theorem g_int : aggT Tryz.prog 3 = false := by kernel_rfl
attribute [go_sem] s_int g_int
section
variable {P : Program} {W : FuncId → Bool} {d : Option Tmp} {ops : Array Oper} {os : List Oper} {fr : Nat → AV} {h : Nat → Blk} {nx : Nat} {K : St → Prop} {t : TokC ⟨d, ops, os, fr, h, nx, K⟩} {g : FuncId} {al : List AV}
end
theorem t_bools : elT Tryz.prog 77 = some 4 := by kernel_rfl
theorem o_bools : okT Tryz.prog 77 = true := by kernel_rfl
theorem i_bool : (Tryz.prog.info? 4).isSome = true := by kernel_rfl
theorem b_bool : byT Tryz.prog 4 = 1 := by kernel_rfl
theorem z_bool : zeroA Tryz.prog 4 = some (.bool false) := by kernel_rfl
theorem zk_bool : zokT Tryz.prog 4 = true := by kernel_rfl
theorem w_bool : u32T Tryz.prog 4 = false := by kernel_rfl
attribute [go_sem] t_bools o_bools i_bool b_bool z_bool zk_bool w_bool
def boolA (bs : List Bool) : List AV := bs.map .bool
theorem boolA_len {bs : List Bool} : (boolA bs).length = bs.length := by simp [boolA]
theorem boolA_at {bs : List Bool} {i : Nat} : (boolA bs)[i]? = (bs[i]?).map AV.bool := by simp [boolA]
@[simp] theorem boolA_pure (bs : List Bool) : AV.pureL (boolA bs) = true := by induction bs <;> simp_all [boolA, AV.pureL, AV.pure]
theorem boolA_put {bs : List Bool} {i : Nat} {b : Bool} : (boolA bs).set i (.bool b) = boolA (bs.set i b) := by simp [boolA, List.map_set]
theorem o_strs : okT Tryz.prog 22 = true := by kernel_rfl
theorem g_strs : aggT Tryz.prog 22 = false := by kernel_rfl
theorem in_strs : (Tryz.prog.info? 22).isSome = true := by kernel_rfl
theorem s_strs : szT Tryz.prog 22 = 1 := by kernel_rfl
theorem zk_strs : zokT Tryz.prog 22 = true := by kernel_rfl
theorem u_strs : u32T Tryz.prog 22 = false := by kernel_rfl
theorem z_strs : zeroA Tryz.prog 22 = some .nil := by kernel_rfl
theorem b_strs : byT Tryz.prog 22 = 24 := by kernel_rfl
theorem el_strs {t : Nat} {xs sp : List AV} {ex : Bool} : AV.el Tryz.prog 22 (.sl t xs sp ex) = true := by simp [AV.el, s_strs, AV.cells, AV.one]
theorem elN_strs  : AV.el Tryz.prog 22 .nil = true := by simp [AV.el, s_strs, AV.cells, AV.one]
theorem elR_strs {a b c d : Nat} : AV.el Tryz.prog 22 (.ref a b c d) = true := by simp [AV.el, s_strs, AV.cells, AV.one]
attribute [go_sem] o_strs g_strs in_strs s_strs zk_strs u_strs z_strs b_strs el_strs elN_strs elR_strs
theorem o_strss : okT Tryz.prog 23 = true := by kernel_rfl
theorem g_strss : aggT Tryz.prog 23 = false := by kernel_rfl
theorem in_strss : (Tryz.prog.info? 23).isSome = true := by kernel_rfl
theorem s_strss : szT Tryz.prog 23 = 1 := by kernel_rfl
theorem zk_strss : zokT Tryz.prog 23 = true := by kernel_rfl
theorem u_strss : u32T Tryz.prog 23 = false := by kernel_rfl
theorem z_strss : zeroA Tryz.prog 23 = some .nil := by kernel_rfl
theorem b_strss : byT Tryz.prog 23 = 24 := by kernel_rfl
theorem elN_strss  : AV.el Tryz.prog 23 .nil = true := by simp [AV.el, s_strss, AV.cells, AV.one]
theorem elR_strss {a b c d : Nat} : AV.el Tryz.prog 23 (.ref a b c d) = true := by simp [AV.el, s_strss, AV.cells, AV.one]
attribute [go_sem] o_strss g_strss in_strss s_strss zk_strss u_strss z_strss b_strss elN_strss elR_strss
theorem t_strss : elT Tryz.prog 23 = some 22 := by kernel_rfl
attribute [go_sem] t_strss
theorem el_rowsRI {a b c d : Nat} : AV.el Tryz.prog 44 (.ref a b c d) = true := by simp [AV.el, s_rows, AV.cells, AV.one]
attribute [go_sem] el_rowsRI
theorem o_nL : okT Tryz.prog 25 = true := by kernel_rfl
theorem g_nL : aggT Tryz.prog 25 = true := by kernel_rfl
theorem s_nL : szT Tryz.prog 25 = 3 := by kernel_rfl
theorem z_nL : zeroA Tryz.prog 25 = some (.agg [.nil, .nil, .nil]) := by kernel_rfl
theorem fs_nL : infosT Tryz.prog 25 = true := by kernel_rfl
theorem f_nL0 : fieldOff Tryz.prog 25 0 = some (0, 22) := by kernel_rfl
theorem f_nL1 : fieldOff Tryz.prog 25 1 = some (1, 22) := by kernel_rfl
theorem f_nL2 : fieldOff Tryz.prog 25 2 = some (2, 23) := by kernel_rfl
theorem el_nL {a0 a1 a2 : AV} : AV.el Tryz.prog 25 (.agg [a0, a1, a2]) = (a0.one && (a1.one && (a2.one))) := by simp [AV.el, s_nL, AV.cells]
attribute [go_sem] o_nL g_nL s_nL z_nL fs_nL f_nL0 f_nL1 f_nL2 el_nL
theorem o_nI : okT Tryz.prog 28 = true := by kernel_rfl
theorem g_nI : aggT Tryz.prog 28 = true := by kernel_rfl
theorem s_nI : szT Tryz.prog 28 = 3 := by kernel_rfl
theorem z_nI : zeroA Tryz.prog 28 = some (.agg [.nil, .nil, .nil]) := by kernel_rfl
theorem fs_nI : infosT Tryz.prog 28 = true := by kernel_rfl
theorem f_nI0 : fieldOff Tryz.prog 28 0 = some (0, 22) := by kernel_rfl
theorem f_nI1 : fieldOff Tryz.prog 28 1 = some (1, 22) := by kernel_rfl
theorem f_nI2 : fieldOff Tryz.prog 28 2 = some (2, 23) := by kernel_rfl
theorem el_nI {a0 a1 a2 : AV} : AV.el Tryz.prog 28 (.agg [a0, a1, a2]) = (a0.one && (a1.one && (a2.one))) := by simp [AV.el, s_nI, AV.cells]
theorem ld_nI {a0 a1 a2 : AV} : ldA Tryz.prog 28 (.agg [a0, a1, a2]) 0 = some (.agg [a0, a1, a2]) := by simp [ldA, partA, g_nI, s_nI, AV.cells]
attribute [go_sem] o_nI g_nI s_nI z_nI fs_nI f_nI0 f_nI1 f_nI2 el_nI
theorem o_nN : okT Tryz.prog 46 = true := by kernel_rfl
theorem g_nN : aggT Tryz.prog 46 = true := by kernel_rfl
theorem s_nN : szT Tryz.prog 46 = 3 := by kernel_rfl
theorem z_nN : zeroA Tryz.prog 46 = some (.agg [.nil, .nil, .nil]) := by kernel_rfl
theorem fs_nN : infosT Tryz.prog 46 = true := by kernel_rfl
theorem f_nN0 : fieldOff Tryz.prog 46 0 = some (0, 43) := by kernel_rfl
theorem f_nN1 : fieldOff Tryz.prog 46 1 = some (1, 43) := by kernel_rfl
theorem f_nN2 : fieldOff Tryz.prog 46 2 = some (2, 44) := by kernel_rfl
theorem el_nN {a0 a1 a2 : AV} : AV.el Tryz.prog 46 (.agg [a0, a1, a2]) = (a0.one && (a1.one && (a2.one))) := by simp [AV.el, s_nN, AV.cells]
theorem ld_nN {a0 a1 a2 : AV} : ldA Tryz.prog 46 (.agg [a0, a1, a2]) 0 = some (.agg [a0, a1, a2]) := by simp [ldA, partA, g_nN, s_nN, AV.cells]
attribute [go_sem] o_nN g_nN s_nN z_nN fs_nN f_nN0 f_nN1 f_nN2 el_nN
theorem o_nS : okT Tryz.prog 37 = true := by kernel_rfl
theorem g_nS : aggT Tryz.prog 37 = true := by kernel_rfl
theorem s_nS : szT Tryz.prog 37 = 3 := by kernel_rfl
theorem z_nS : zeroA Tryz.prog 37 = some (.agg [.nil, .nil, .nil]) := by kernel_rfl
theorem fs_nS : infosT Tryz.prog 37 = true := by kernel_rfl
theorem f_nS0 : fieldOff Tryz.prog 37 0 = some (0, 34) := by kernel_rfl
theorem f_nS1 : fieldOff Tryz.prog 37 1 = some (1, 34) := by kernel_rfl
theorem f_nS2 : fieldOff Tryz.prog 37 2 = some (2, 35) := by kernel_rfl
theorem el_nS {a0 a1 a2 : AV} : AV.el Tryz.prog 37 (.agg [a0, a1, a2]) = (a0.one && (a1.one && (a2.one))) := by simp [AV.el, s_nS, AV.cells]
theorem ld_nS {a0 a1 a2 : AV} : ldA Tryz.prog 37 (.agg [a0, a1, a2]) 0 = some (.agg [a0, a1, a2]) := by simp [ldA, partA, g_nS, s_nS, AV.cells]
attribute [go_sem] o_nS g_nS s_nS z_nS fs_nS f_nS0 f_nS1 f_nS2 el_nS
abbrev Txs := List (List UInt8)
abbrev Row := Txs × Txs
def rowNil (b : Bool) (p : Row) : Prop := b = true ∧ p.1 = []
instance (b : Bool) (p : Row) : Decidable (rowNil b p) := by unfold rowNil; infer_instance
def ownP (b : Bool) (p : Row) : AV := if rowNil b p then .nil else .own 9 (strA p.1) (strA p.2) true
def snpP (b : Bool) (p : Row) : AV := if rowNil b p then .nil else .sl 9 (strA p.1) [] false
def rowBlk (p : Row) : Blk := ⟨9, strA (p.1 ++ p.2), true, true, true⟩
def RowsN (h : Nat → Blk) (b : Bool) (hi : Nat) : Nat → List Row → List AV → Prop
 | _, [], [] => True
 | lo, p :: ps, e :: es => if rowNil b p then e = .nil ∧ RowsN h b hi lo ps es else ∃ id, lo ≤ id ∧ id < hi ∧ e = .ref id (p.1.length + p.2.length) 0 p.1.length ∧ h id = rowBlk p ∧ RowsN h b hi (id + 1) ps es
 | _, _, _ => False
section
variable {h h' : Nat → Blk} {b : Bool} {hi hi' : Nat}
theorem RowsN.len : ∀ {lo : Nat} {ps : List Row} {es : List AV}, RowsN h b hi lo ps es → es.length = ps.length
  | _, [], [], _ => rfl
  | lo, p :: ps, e :: es, H => by
    unfold RowsN at H
    split at H
    · simp [RowsN.len H.2]
    · obtain ⟨id, _, _, _, _, H⟩ := H; simp [RowsN.len H]
  | _, [], _ :: _, H => H.elim
  | _, _ :: _, [], H => H.elim
theorem RowsN.keep (h2 : hi ≤ hi') : ∀ {lo : Nat} {ps : List Row} {es : List AV}, (∀ i, lo ≤ i → i < hi → h' i = h i) → RowsN h b hi lo ps es → RowsN h' b hi' lo ps es
  | _, [], [], _, _ => trivial
  | lo, p :: ps, e :: es, h1, H => by
    unfold RowsN at H ⊢
    split at H
    · rename_i hn; rw [if_pos hn]; exact ⟨H.1, RowsN.keep h2 h1 H.2⟩
    · rename_i hn; rw [if_neg hn]
      obtain ⟨id, k1, k2, k3, k4, H⟩ := H
      exact ⟨id, k1, by omega, k3, by rw [h1 id k1 k2, k4], RowsN.keep h2 (fun i a c => h1 i (by omega) c) H⟩
  | _, [], _ :: _, _, H => H.elim
  | _, _ :: _, [], _, H => H.elim
theorem RowsN.snoc {p : Row} {id : Nat} (hn : ¬ rowNil b p) (h2 : hi ≤ id) (h3 : id < hi') (hb : h' id = rowBlk p) : ∀ {lo : Nat} {ps : List Row} {es : List AV}, lo ≤ hi → (∀ i, lo ≤ i → i < hi → h' i = h i) → RowsN h b hi lo ps es →
    RowsN h' b hi' lo (ps ++ [p]) (es ++ [.ref id (p.1.length + p.2.length) 0 p.1.length])
  | lo, [], [], hl, _, _ => by
    show RowsN h' b hi' lo (p :: []) (_ :: [])
    unfold RowsN; rw [if_neg hn]; exact ⟨id, by omega, h3, rfl, hb, trivial⟩
  | lo, q :: ps, e :: es, hl, h1, H => by
    show RowsN h' b hi' lo (q :: (ps ++ [p])) (e :: (es ++ _))
    unfold RowsN at H ⊢
    split at H
    · rename_i hq; rw [if_pos hq]; exact ⟨H.1, RowsN.snoc hn h2 h3 hb hl h1 H.2⟩
    · rename_i hq; rw [if_neg hq]
      obtain ⟨k, k1, k2, k3, k4, H⟩ := H
      exact ⟨k, k1, by omega, k3, by rw [h1 k k1 k2, k4], RowsN.snoc hn h2 h3 hb (by omega) (fun i a c => h1 i (by omega) c) H⟩
  | _, [], _ :: _, _, _, H => H.elim
  | _, _ :: _, [], _, _, H => H.elim
theorem RowsN.snocN {p : Row} (hn : rowNil b p) : ∀ {lo : Nat} {ps : List Row} {es : List AV}, RowsN h b hi lo ps es → RowsN h b hi lo (ps ++ [p]) (es ++ [.nil])
  | lo, [], [], _ => by
    show RowsN h b hi lo (p :: []) (_ :: [])
    unfold RowsN; rw [if_pos hn]; exact ⟨rfl, trivial⟩
  | lo, q :: ps, e :: es, H => by
    show RowsN h b hi lo (q :: (ps ++ [p])) (e :: (es ++ _))
    unfold RowsN at H ⊢
    split at H
    · rename_i hq; rw [if_pos hq]; exact ⟨H.1, RowsN.snocN hn H.2⟩
    · rename_i hq; rw [if_neg hq]
      obtain ⟨k, k1, k2, k3, k4, H⟩ := H
      exact ⟨k, k1, k2, k3, k4, RowsN.snocN hn H⟩
  | _, [], _ :: _, H => H.elim
  | _, _ :: _, [], H => H.elim
theorem RowsN.at_ : ∀ {lo : Nat} {ps : List Row} {es : List AV} {i : Nat} {p : Row}, RowsN h b hi lo ps es → ps[i]? = some p → ¬ rowNil b p → ∃ id, lo ≤ id ∧ id < hi ∧ es[i]? = some (.ref id (p.1.length + p.2.length) 0 p.1.length) ∧ h id = rowBlk p
  | lo, q :: ps, e :: es, 0, p, H, hp, hn => by
    simp only [List.getElem?_cons_zero, Option.some.injEq] at hp
    subst hp
    unfold RowsN at H
    rw [if_neg hn] at H
    obtain ⟨id, k1, k2, k3, k4, _⟩ := H
    exact ⟨id, k1, k2, by simp [k3], k4⟩
  | lo, q :: ps, e :: es, i + 1, p, H, hp, hn => by
    simp only [List.getElem?_cons_succ] at hp ⊢
    unfold RowsN at H
    split at H
    · exact RowsN.at_ H.2 hp hn
    · obtain ⟨id, k1, _, _, _, H⟩ := H
      obtain ⟨k, a, c⟩ := RowsN.at_ H hp hn
      exact ⟨k, by omega, c⟩
  | _, [], [], _, _, _, hp, _ => by simp at hp
  | _, [], _ :: _, _, _, H, _, _ => H.elim
  | _, _ :: _, [], _, _, H, _, _ => H.elim
theorem RowsN.snap {st : St} {d : Nat} : ∀ {lo : Nat} {ps : List Row} {es : List AV}, RowsN st.h b hi lo ps es → ∃ ids, snapL (snapA st (d + 1)) es = some (ps.map (snpP b), ids)
  | _, [], [], _ => ⟨[], rfl⟩
  | lo, p :: ps, e :: es, H => by
    unfold RowsN at H
    split at H
    · rename_i hn
      obtain ⟨ids, hi⟩ := RowsN.snap (st := st) (d := d) H.2
      refine ⟨ids, ?_⟩
      rw [H.1]
      have : snapA st (d + 1) .nil = some (.nil, []) := snapA_pure rfl
      simp [snapL, this, hi, snpP, hn]
    · rename_i hn
      obtain ⟨id, k1, k2, k3, k4, H⟩ := H
      obtain ⟨ids, hi⟩ := RowsN.snap (st := st) (d := d) H
      rw [rowBlk] at k4
      have h1 : snapA st (d + 1) (.ref id (p.1.length + p.2.length) 0 p.1.length) = some (.sl 9 (strA p.1) [] false, [id]) :=
        snap_frozen (by rw [k4]) (by rw [k4, strA_length, List.length_append]) (by rw [k4]) (by omega) (by rw [k4, List.drop_zero, strA_take, List.take_left' rfl]) (strA_pure _)
      exact ⟨id :: ids, by rw [k3]; simp [snapL, h1, hi, snpP, hn]⟩
  | _, [], _ :: _, H => H.elim
  | _, _ :: _, [], H => H.elim
theorem RowsN.own {st : St} {d : Nat} : ∀ {lo : Nat} {ps : List Row} {es : List AV}, RowsN st.h b hi lo ps es → ∃ ids, snapL (ownA st (d + 1)) es = some (ps.map (ownP b), ids) ∧ ids.Nodup ∧ ∀ i ∈ ids, lo ≤ i ∧ i < hi
  | _, [], [], _ => ⟨[], rfl, by simp, by simp⟩
  | lo, p :: ps, e :: es, H => by
    unfold RowsN at H
    split at H
    · rename_i hn
      obtain ⟨ids, hi, h2, h3⟩ := RowsN.own (st := st) (d := d) H.2
      refine ⟨ids, ?_, h2, h3⟩
      rw [H.1]
      have : ownA st (d + 1) .nil = some (.nil, []) := ownA_pure rfl
      simp [snapL, this, hi, ownP, hn]
    · rename_i hn
      obtain ⟨id, k1, k2, k3, k4, H⟩ := H
      obtain ⟨ids, hi, h2, h3⟩ := RowsN.own (st := st) (d := d) H
      rw [rowBlk] at k4
      have h1 : ownA st (d + 1) (.ref id (p.1.length + p.2.length) 0 p.1.length) = some (.own 9 (strA p.1) (strA p.2) true, [id]) := by
        rw [ownA_ref, if_pos ⟨by rw [k4], by rw [k4, strA_length, List.length_append], rfl, by omega, by rw [k4]⟩, k4]
        simp only [if_true]
        rw [strA_take, strA_drop, List.take_left' rfl, List.drop_left' rfl, snapLo_pure (strA_pure _), snapLo_pure (strA_pure _)]
        simp
      refine ⟨id :: ids, by rw [k3]; simp [snapL, h1, hi, ownP, hn], List.nodup_cons.2 ⟨fun hm => by have := (h3 _ hm).1; omega, h2⟩, fun i hi => ?_⟩
      rcases List.mem_cons.1 hi with rfl | hi
      · exact ⟨k1, k2⟩
      · have := h3 i hi; omega
  | _, [], _ :: _, H => H.elim
  | _, _ :: _, [], H => H.elim
theorem matL_own : ∀ (ps : List Row) (st : St), ∃ es st', matL true (ps.map (ownP b)) st = (es, st') ∧ st'.fr = st.fr ∧ st.nx ≤ st'.nx ∧ (∀ i, i < st.nx → st'.h i = st.h i) ∧ RowsN st'.h b st'.nx st.nx ps es
  | [], st => ⟨[], st, rfl, rfl, Nat.le_refl _, fun _ _ => rfl, trivial⟩
  | p :: ps, st => by
    by_cases hn : rowNil b p
    · obtain ⟨es, st', h1, h2, h3, h4, h5⟩ := matL_own ps st
      refine ⟨.nil :: es, st', ?_, h2, h3, h4, ?_⟩
      · rw [List.map_cons, ownP, if_pos hn, matL]; simp only [matA]; rw [h1]
      · unfold RowsN; rw [if_pos hn]; exact ⟨rfl, h5⟩
    · obtain ⟨es, st', h1, h2, h3, h4, h5⟩ := matL_own ps (st.new (rowBlk p))
      have hnx : (st.new (rowBlk p)).nx = st.nx + 1 := rfl
      refine ⟨.ref st.nx (p.1.length + p.2.length) 0 p.1.length :: es, st', ?_, h2, by omega, fun i hi => ?_, ?_⟩
      · rw [List.map_cons, ownP, if_neg hn, matL]
        simp only [matA, matL_pure _ _ _ (strA_pure _), strA_length]
        rw [strA_append, show (⟨9, strA (p.1 ++ p.2), true, true, true⟩ : Blk) = rowBlk p from rfl, h1]
      · rw [h4 i (by omega)]; simp [St.new, upd]; omega
      · unfold RowsN; rw [if_neg hn]
        refine ⟨st.nx, Nat.le_refl _, by omega, rfl, ?_, h5⟩
        rw [h4 _ (by omega)]; simp [St.new, upd]
end
end Go.Proofs.YtdljcbbodihagaaGreatDoor
