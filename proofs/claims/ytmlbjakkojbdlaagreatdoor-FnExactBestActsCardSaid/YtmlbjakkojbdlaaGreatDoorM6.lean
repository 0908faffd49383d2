/- Part 6 of the ground of the proofs of this seat. -/
import Derived.Test.YtmlbjakkojbdlaaGreatDoorM5

set_option linter.unusedVariables false
set_option linter.unusedSimpArgs false
set_option maxRecDepth 100000
namespace Go.Proofs.YtmlbjakkojbdlaaGreatDoor
open Go

theorem c_Len32 : callable Tryz.prog 119 = true := by kernel_rfl
theorem c_LeadingZeros32 : callable Tryz.prog 105 = true := by kernel_rfl
theorem ci_shifted : callable Tryz.prog 106 = true := by kernel_rfl

def len2 (x : Nat) : Nat := if x = 0 then 0 else Nat.log2 x + 1
theorem len2_of {x n : Nat} (h1 : 2 ^ n ≤ x) (h2 : x < 2 ^ (n + 1)) : len2 x = n + 1 := by
 have h0 : x ≠ 0 := by have := Nat.pow_pos (n := n) (show 0 < 2 by omega); omega
 rw [len2, if_neg h0]
 have a := (Nat.le_log2 h0).2 h1
 have b := (Nat.log2_lt h0).2 h2
 omega
theorem len2_spec {x : Nat} (h : x ≠ 0) : 2 ^ (len2 x - 1) ≤ x ∧ x < 2 ^ len2 x ∧ 0 < len2 x := by
 rw [len2, if_neg h]
 exact ⟨Nat.log2_self_le h, Nat.lt_log2_self, by omega⟩
theorem len2_div {x k : Nat} (h : 2 ^ k ≤ x) : len2 x = len2 (x / 2 ^ k) + k := by
 have hp := Nat.pow_pos (n := k) (show 0 < 2 by omega)
 have h0 : x / 2 ^ k ≠ 0 := by
  have := Nat.div_pos h hp; omega
 obtain ⟨a, b, c⟩ := len2_spec h0
 obtain ⟨m, hm⟩ : ∃ m, len2 (x / 2 ^ k) = m + 1 := ⟨len2 (x / 2 ^ k) - 1, by omega⟩
 rw [hm] at a b ⊢
 rw [Nat.add_sub_cancel, Nat.le_div_iff_mul_le hp, ← Nat.pow_add] at a
 rw [Nat.div_lt_iff_lt_mul hp, ← Nat.pow_add] at b
 rw [show m + 1 + k = (m + k) + 1 by omega] at b ⊢
 exact len2_of a b
theorem len2_small (x : Nat) (h : x < 256) : len2 x < 9 := by
  by_cases h0 : x = 0
  · subst h0; decide
  · obtain ⟨a, _, c⟩ := len2_spec h0
    rcases Nat.lt_or_ge (len2 x) 9 with h' | h'
    · exact h'
    · have := Nat.pow_le_pow_right (show 0 < 2 by omega) (show 8 ≤ len2 x - 1 by omega); omega

theorem g_Len32 (x : Nat) (hx : x < 4294967296) : CallOk Tryz.prog 119 [.int .u32 x] (.int .i64 (len2 x)) [] := by
  (refine callOk_of_wpc (W := fun _ => false) false hm' Tryz.func119 rfl (by kernel_rfl) (Nat.le_of_ble_eq_true rfl) (go_start ?_); generalize hQ : Post Tryz.prog Tryz.f119 _ _ _ _ _ = Q; simp only [stIn, matL, matA, st00])
  simp (disch := omega) only [go_sem, ↓x_idx, ↓k_block, Nat.reduceEqDiff, Nat.reduceBEq, ↓reduceIte, reduceCtorEq]
  obtain ⟨R, hR⟩ : ∃ R : St → Prop, R = fun st => ∃ y n : Nat, y < 65536 ∧ n ≤ 16 ∧ st.fr 0 = .int .u32 y ∧ st.fr 2 = .int .i64 n ∧ len2 x = len2 y + n := ⟨_, rfl⟩
  refine k_join R ?_ ?_
  · by_cases hb : 65536 ≤ x
    · have : len2 x = len2 (x / 65536) + 16 := len2_div (x := x) (k := 16) (by omega)
      simp (disch := omega) only [go_sem, ↓k_cond, ↓x_idx, ↓k_block, Nat.reduceEqDiff, Nat.reduceBEq, ↓reduceIte, reduceCtorEq, shrV32]
      rw [hR]; exact ⟨x / 65536, 16, by omega, by omega, (by simp [upd_app] <;> omega), (by simp [upd_app] <;> omega), this⟩
    · simp (disch := omega) only [go_sem, ↓k_cond, ↓x_idx, ↓k_block, Nat.reduceEqDiff, Nat.reduceBEq, ↓reduceIte, reduceCtorEq]
      rw [hR]; exact ⟨x, 0, by omega, by omega, (by simp [upd_app] <;> omega), (by simp [upd_app] <;> omega), by omega⟩
  rintro ⟨fr, h, nx⟩ hst
  rw [hR] at hst
  obtain ⟨y, n, hy, hn, h0, h2, hlen⟩ := hst
  simp only at h0 h2
  clear hR
  simp (disch := omega) only [go_sem, ↓x_idx, ↓k_block, Nat.reduceEqDiff, Nat.reduceBEq, ↓reduceIte, reduceCtorEq, h0, h2]
  obtain ⟨R, hR⟩ : ∃ R : St → Prop, R = fun st => ∃ y n : Nat, y < 256 ∧ n ≤ 24 ∧ st.fr 0 = .int .u32 y ∧ st.fr 2 = .int .i64 n ∧ len2 x = len2 y + n := ⟨_, rfl⟩
  refine k_join R ?_ ?_
  · by_cases hb : 256 ≤ y
    · have : len2 y = len2 (y / 256) + 8 := len2_div (x := y) (k := 8) (by omega)
      simp (disch := omega) only [go_sem, ↓k_cond, ↓x_idx, ↓k_block, Nat.reduceEqDiff, Nat.reduceBEq, ↓reduceIte, reduceCtorEq, h0, h2, shrV32]
      rw [hR]; exact ⟨y / 256, n + 8, by omega, by omega, (by simp [upd_app] <;> omega), (by simp [upd_app] <;> omega), by omega⟩
    · simp (disch := omega) only [go_sem, ↓k_cond, ↓x_idx, ↓k_block, Nat.reduceEqDiff, Nat.reduceBEq, ↓reduceIte, reduceCtorEq, h0, h2]
      rw [hR]; exact ⟨y, n, by omega, by omega, (by simp [upd_app, h0] <;> omega), (by simp [upd_app, h2] <;> omega), by omega⟩
  rintro ⟨fr, h, nx⟩ hst
  rw [hR] at hst
  obtain ⟨y, n, hy, hn, h0, h2, hlen⟩ := hst
  simp only at h0 h2
  clear hR
  simp (disch := omega) only [go_sem, ↓k_cond, ↓k_block, Nat.reduceEqDiff, Nat.reduceBEq, ↓reduceIte, reduceCtorEq, h0, h2]
  refine x_idxS (n := y) (b := (len2 y).toUInt8) (by simp [evA, upd_app, h0]; rfl) st_string ?_ ?_
  · clear h0 hlen; revert y; decide +kernel
  · have h8 := len2_small y hy
    have e : ((len2 y).toUInt8).toNat = len2 y := by simp; omega
    simp (disch := omega) only [go_sem, ↓k_cond, ↓x_idx, ↓k_block, Nat.reduceEqDiff, Nat.reduceBEq, ↓reduceIte, reduceCtorEq, h2, e]
    rw [← hQ]
    exact post_one (.inl rfl) rfl (by simp only [upd_app, ↓reduceIte]; rw [hlen, Nat.add_comm]) rfl
theorem g_LeadingZeros32 (x : Nat) (hx : x < 4294967296) (h0 : x ≠ 0) : CallOk Tryz.prog 105 [.int .u32 x] (.int .i64 ((32 - len2 x : Nat) : Int)) [] := by
  (refine callOk_of_wpc (W := fun _ => false) false hm' Tryz.func105 rfl (by kernel_rfl) (Nat.le_of_ble_eq_true rfl) (go_start ?_); generalize hQ : Post Tryz.prog Tryz.f105 _ _ _ _ _ = Q; simp only [stIn, matL, matA, st00])
  have hl : len2 x ≤ 32 := by
    obtain ⟨a, b, c⟩ := len2_spec h0
    rcases Nat.lt_or_ge 32 (len2 x) with h | h
    · have := Nat.pow_le_pow_right (show 0 < 2 by omega) (show 32 ≤ len2 x - 1 by omega); omega
    · exact h
  simp (disch := omega) only [go_sem, ↓k_cond, ↓x_idx, ↓k_block, Nat.reduceEqDiff, Nat.reduceBEq, ↓reduceIte, reduceCtorEq]
  refine x_callP (g_Len32 x hx) c_Len32 (by simp [evA, upd_app, ofVal, ofCell]) (by simp [AV.pure, AV.pureL, natA_pure, natI_pure, natS_pure]) (by simp [AV.pure, AV.pureL, natA_pure, natI_pure, natS_pure]) ?_
  have e : 32 - (len2 x : Int) = ((32 - len2 x : Nat) : Int) := by omega
  simp (disch := omega) only [go_sem, ↓k_cond, ↓x_idx, ↓k_block, Nat.reduceEqDiff, Nat.reduceBEq, ↓reduceIte, reduceCtorEq, e]
  rw [← hQ]
  exact post_one (.inl rfl) rfl (by simp [upd_app] <;> omega) rfl
theorem norm_top {x : Nat} (hx : x < 4294967296) (h0 : x ≠ 0) : 2147483648 ≤ x * 2 ^ (32 - len2 x) ∧ x * 2 ^ (32 - len2 x) < 4294967296 ∧ 32 - len2 x ≤ 31 := by
  obtain ⟨a, b, c⟩ := len2_spec h0
  have hl : len2 x ≤ 32 := by
    rcases Nat.lt_or_ge 32 (len2 x) with h | h
    · have := Nat.pow_le_pow_right (show 0 < 2 by omega) (show 32 ≤ len2 x - 1 by omega); omega
    · exact h
  have h1 : 2 ^ (len2 x - 1) * 2 ^ (32 - len2 x) ≤ x * 2 ^ (32 - len2 x) := Nat.mul_le_mul_right _ a
  have h2 : x * 2 ^ (32 - len2 x) < 2 ^ len2 x * 2 ^ (32 - len2 x) := Nat.mul_lt_mul_of_pos_right b (Nat.pow_pos (by omega))
  rw [← Nat.pow_add] at h1 h2
  rw [show len2 x - 1 + (32 - len2 x) = 31 by omega] at h1
  rw [show len2 x + (32 - len2 x) = 32 by omega] at h2
  omega

theorem or_low {by' o z : Nat} (h : o < 2 ^ by') : o ||| (2 ^ by' * z) = o + 2 ^ by' * z := by
 rw [Nat.or_comm, ← Nat.two_pow_add_eq_or_of_lt h, Nat.add_comm]
theorem shift_low {s x : Nat} (hs : s ≤ 31) : x * 2 ^ s % 4294967296 = 2 ^ s * (x % 2 ^ (32 - s)) := by
 have : (4294967296 : Nat) = 2 ^ s * 2 ^ (32 - s) := by rw [← Nat.pow_add, show s + (32 - s) = 32 by omega]
 rw [this, Nat.mul_comm x, Nat.mul_mod_mul_left]
def shiftL (a s : Nat) : List Nat := enc B32 (a * 2 ^ s) ++ List.replicate ((enc B32 a).length + 1 - (enc B32 (a * 2 ^ s)).length) 0
theorem shift_step {B i x S y o vd v1 v2 T : Nat} (e1 : v1 + B ^ i * o = vd + B ^ i * (o + y % B)) (e2 : v2 + B ^ (i + 1) * 0 = v1 + B ^ (i + 1) * (y / B)) (hy : x * S = y) (hv : vd = T * S) : v2 = (T + B ^ i * x) * S := by
 have e3 : B ^ i * (y % B + B * (y / B)) = B ^ i * y := by rw [Nat.mod_add_div]
 rw [Nat.mul_add] at e1 e3
 rw [Nat.mul_zero, Nat.add_zero, Nat.pow_succ, Nat.mul_assoc] at e2
 rw [e2, Nat.add_mul, ← hv, Nat.mul_assoc, hy, ← e3]; omega
theorem i_shifted (a s : Nat) (ha : (enc B32 a).length ≤ 1099511627776) (hs : s ≤ 31) : CallOk Tryz.prog 106 [natI a, .int .i64 s] (.own 128 (natA .u32 (shiftL a s)) [] true) [] := by
  (refine callOk_of_wpc (W := fun _ => false) true hm' Tryz.func106 rfl (by kernel_rfl) (Nat.le_of_ble_eq_true rfl) (go_start ?_); generalize hQ : Post Tryz.prog Tryz.f106 _ _ _ _ _ = Q; simp only [stIn, matL, matA, st00, natI])
  have hB : B32 = 4294967296 := rfl
  obtain ⟨n, hn⟩ : ∃ n, (enc B32 a).length = n := ⟨_, rfl⟩
  rw [hn] at ha
  have hS : 2 ^ s ≤ 2147483648 := Nat.pow_le_pow_right (show 0 < 2 by omega) hs
  have hS0 : 0 < 2 ^ s := Nat.pow_pos (by omega)
  simp (disch := omega) only [go_sem, ↓k_cond, ↓x_idx, ↓k_block, Nat.reduceEqDiff, Nat.reduceBEq, ↓reduceIte, reduceCtorEq, hn, reach]
  refine k_loop (fun (p : Nat × List Nat) st => st.fr 1 = .int .i64 s ∧ st.fr 5 = .ref 0 (n + 1) 0 (n + 1) ∧ st.fr 13 = natI a ∧ st.fr 14 = .int .i64 n ∧ st.fr 15 = .int .i64 p.1 ∧
      st.h 0 = ⟨128, natA .u32 p.2, true, true, true⟩ ∧ p.2.length = n + 1 ∧ p.1 ≤ n ∧ (∀ q ∈ p.2, q < B32) ∧ val B32 p.2 = val B32 ((enc B32 a).take p.1) * 2 ^ s) (fun p => n - p.1) (0, List.replicate (n + 1) 0)
    ⟨(by simp [upd_app] <;> omega), (by simp [upd_app] <;> omega), (by simp [upd_app, natI] <;> omega), (by simp [upd_app] <;> omega), (by simp [upd_app] <;> omega), (by simp [upd_app] <;> omega), by simp, by simp, zeros_lt B32_gt, by simp [val_zeros, val]⟩ ?_
  rintro ⟨i, ds⟩ ⟨fr, h, nx⟩ ⟨h1, h5, h13, h14, h15, hm, hlen, hi, hq, hv⟩ J hJ
  simp only [natI] at h1 h5 h13 h14 h15 hm hlen hi hq hv
  have hdl : (natA .u32 ds).length = n + 1 := by rw [natA_length, hlen]
  by_cases hin : i < n
  · obtain ⟨x, hx⟩ := get_some (xs := enc B32 a) (i := i) (by omega)
    have hxB : x < B32 := enc_lt B32_gt a x (List.mem_of_getElem? hx)
    have hvx := val_take_succ (B := B32) hx
    have htk : val B32 ((enc B32 a).take i) < B32 ^ i := by
      have := val_lt (B := B32) (xs := (enc B32 a).take i) (fun d hd => enc_lt B32_gt a d (List.mem_of_mem_take hd))
      rwa [show ((enc B32 a).take i).length = i by simp; omega] at this
    have hlow : val B32 ds < B32 ^ i * 2 ^ s := by rw [hv]; exact Nat.mul_lt_mul_of_pos_right htk hS0
    obtain ⟨o, ho⟩ := get_some (xs := ds) (i := i) (by omega)
    have hoS : o < 2 ^ s := by
      have h2 := Nat.div_lt_of_lt_mul hlow
      rw [dig_at B32_gt hq ho]
      exact Nat.lt_of_le_of_lt (Nat.mod_le _ _) h2
    have hz : ds[i + 1]? = some 0 := by
      obtain ⟨z, hz⟩ := get_some (xs := ds) (i := i + 1) (by omega)
      rw [hz, zero_at B32_gt hq hz (Nat.lt_trans hlow (by rw [Nat.pow_succ]; exact Nat.mul_lt_mul_of_pos_left (by rw [hB]; omega) (Nat.pow_pos (by decide))))]
    obtain ⟨y, hy⟩ : ∃ y, x * 2 ^ s = y := ⟨_, rfl⟩
    have hyB : y / 4294967296 < 2 ^ s := by
      rw [Nat.div_lt_iff_lt_mul (by omega), ← hy, Nat.mul_comm (2 ^ s)]; exact Nat.mul_lt_mul_of_pos_right (by rw [← hB]; exact hxB) hS0
    have hor : o ||| y % 4294967296 = o + y % 4294967296 := by rw [← hy, shift_low hs, or_low hoS]
    have hmod : y % 4294967296 ≤ 4294967296 - 2 ^ s := by
      rw [← hy, shift_low hs]
      have h1 : x % 2 ^ (32 - s) + 1 ≤ 2 ^ (32 - s) := Nat.mod_lt _ (Nat.pow_pos (by omega))
      have h2 := Nat.mul_le_mul_left (2 ^ s) h1
      rw [← Nat.pow_add, show s + (32 - s) = 32 by omega, Nat.mul_add, Nat.mul_one] at h2
      have : (2 : Nat) ^ 32 = 4294967296 := by decide
      omega
    have key : ∀ st : St, st.fr 1 = .int .i64 s → st.fr 5 = .ref 0 (n + 1) 0 (n + 1) → st.fr 13 = natI a → st.fr 14 = .int .i64 n → st.fr 15 = .int .i64 ((i + 1 : Nat) : Int) → 
        st.h 0 = ⟨128, natA .u32 ((ds.set i (o + y % 4294967296)).set (i + 1) (y / 4294967296)), true, true, true⟩ → J st := by
      intro st k1 k5 k13 k14 k15 kh
      rw [← hB] at kh hmod hyB
      have e1 := val_set (B := B32) (v := o + y % B32) ho
      have e2 := val_set (B := B32) (xs := ds.set i (o + y % B32)) (p := i + 1) (o := 0) (v := y / B32) (by rw [List.getElem?_set_ne (by omega)]; exact hz)
      have hlt : o + y % B32 < B32 := by omega
      have hlt2 : y / B32 < B32 := by omega
      clear hor hB
      refine hJ (i + 1, (ds.set i (o + y % B32)).set (i + 1) (y / B32)) st ⟨k1, k5, k13, k14, k15, kh, by simp [hlen], hin, set_lt (set_lt hq hlt) hlt2, ?_⟩ (by simp only; omega)
      simp only [hvx]
      exact shift_step e1 e2 hy hv
    clear hJ hv hlow htk hvx hq
    simp only [hB] at hxB
    have hyb : y < 18446744073709551616 := by omega
    obtain ⟨S, hSS⟩ : ∃ S, 2 ^ s = S := ⟨_, rfl⟩
    rw [hSS] at hS hS0 hoS hyB hmod hy
    have hmm : y % 4294967296 < 4294967296 := by omega
    have hd : y / 4294967296 < 4294967296 := by omega
    have ho2 : o < 4294967296 := by omega
    have hl1 : (natA .u32 (ds.set i (o + y % 4294967296))).length = n + 1 := by rw [natA_length, List.length_set, hlen]
    have hz' : (ds.set i (o + y % 4294967296))[i + 1]? = some 0 := by rw [List.getElem?_set_ne (by omega)]; exact hz
    simp (disch := omega) only [go_sem, ↓k_cond, ↓x_idx, ↓k_block, Nat.reduceEqDiff, Nat.reduceBEq, ↓reduceIte, reduceCtorEq, h1, h5, h13, h14, h15, hm, hdl, hlen, hx, ho, shlV, hSS, hy, hl1, hz', wrapU32, wrapU32m, ↓intOr32, hor]
    exact key _ (by simp [upd_app, h1] <;> omega) (by simp [upd_app, h5] <;> omega) (by simp [upd_app, h13, natI] <;> omega) (by simp [upd_app, h14] <;> omega) (by simp [upd_app] <;> omega) (by simp [upd_app] <;> omega)
  · obtain rfl : i = n := by omega
    have ex : (enc B32 a).take i = enc B32 a := List.take_of_length_le (by omega)
    rw [ex, val_enc B32_gt] at hv
    simp (disch := omega) only [go_sem, ↓k_cond, ↓x_idx, ↓k_block, Nat.reduceEqDiff, Nat.reduceBEq, ↓reduceIte, reduceCtorEq, h1, h5, h13, h14, h15, hm, hdl]
    have e3 : ds = shiftL a s := by
      rw [enc_pad B32_gt hq, hv, hlen, shiftL, hn]
    rw [← hQ]
    exact post_own (id := 0) (n := i + 1) (len := i + 1) (.inl rfl) rfl (by simp [upd_app] <;> omega) (by simp [hm]) (by simp [hm, natA_length, hlen]) (by simp [hm]) (by simp [hm]) (Nat.le_refl _) (by simp only [hm, natA_take]; rw [List.take_of_length_le (by omega), e3]) (by simp [hm, natA_length, hlen]) (by simp [hm]) (by simp [natA_pure]) rfl
theorem ci_takeAway : callable Tryz.prog 107 = true := by kernel_rfl
theorem take_step {B c l x t y : Nat} (hc : c < B) (ht : t < B) (hy : y < B) : (c + t * y) / B < B ∧ t * y ≤ (B - 1) * (B - 1) := by
 have h1 : t * y ≤ (B - 1) * (B - 1) := Nat.mul_le_mul (by omega) (by omega)
 refine ⟨?_, h1⟩
 rw [Nat.div_lt_iff_lt_mul (by omega)]
 obtain ⟨b, rfl⟩ : ∃ b, B = b + 1 := ⟨B - 1, by omega⟩
 simp only [Nat.add_sub_cancel] at h1
 have : (b + 1) * (b + 1) = b * b + 2 * b + 1 := by rw [Nat.mul_add, Nat.add_mul]; omega
 omega
theorem take_inv {B i c l x t y e l' D T W V : Nat} (h : D + t * V = W + B ^ i * (c + l)) (he : e + (c + t * y) % B + l = x + B * l') :
  (D + B ^ i * e) + t * (V + B ^ i * y) = (W + B ^ i * x) + B ^ (i + 1) * ((c + t * y) / B + l') := by
 have h1 : B ^ i * (e + (c + t * y) % B + l + B * ((c + t * y) / B)) = B ^ i * (x + B * l' + B * ((c + t * y) / B)) := by rw [he]
 have h2 : e + (c + t * y) % B + l + B * ((c + t * y) / B) = e + (c + t * y) + l := by have := Nat.mod_add_div (c + t * y) B; omega
 rw [h2] at h1
 have h3 : B ^ (i + 1) * ((c + t * y) / B + l') = B ^ i * (B * l' + B * ((c + t * y) / B)) := by rw [← Nat.mul_add, Nat.pow_succ, Nat.mul_assoc, Nat.add_comm l']
 have h4 : t * (V + B ^ i * y) = t * V + B ^ i * (t * y) := by rw [Nat.mul_add, Nat.mul_left_comm]
 rw [h3, h4]
 simp only [Nat.mul_add] at h1 ⊢
 simp only [Nat.mul_add] at h
 omega
theorem back_inv {B i c x y D W V : Nat} (h : D + B ^ i * c = W + V) : (D + B ^ i * ((c + x + y) % B)) + B ^ (i + 1) * ((c + x + y) / B) = (W + B ^ i * x) + (V + B ^ i * y) := by
 have h1 : B ^ i * ((c + x + y) % B + B * ((c + x + y) / B)) = B ^ i * (c + x + y) := by rw [Nat.mod_add_div]
 have h2 : B ^ (i + 1) * ((c + x + y) / B) = B ^ i * (B * ((c + x + y) / B)) := by rw [Nat.pow_succ, Nat.mul_assoc]
 rw [h2]
 rw [Nat.mul_add, Nat.mul_add (B ^ i) (c + x), Nat.mul_add (B ^ i) c] at h1
 omega
theorem take_fits {BL D V W t cl : Nat} (hD : D < BL) (h : D + t * V = W + BL * cl) (hcl : cl = 0) : ¬ W < t * V ∧ D = W - t * V := by subst hcl; simp at h; omega
theorem take_over {BL D V W t cl E c : Nat} (hD : D < BL) (hW : W < BL) (hE : E < BL) (h : D + t * V = W + BL * cl) (hcl : cl ≠ 0) (hle : t * V ≤ W + V) (hV : V ≤ BL) (h2 : E + BL * c = D + V) : W < t * V ∧ E = W + V - t * V := by
  have h1 : BL * 1 ≤ BL * cl := Nat.mul_le_mul_left _ (by omega)
  rw [Nat.mul_one] at h1
  refine ⟨by omega, ?_⟩
  have h3 : E + BL * c + t * V = W + BL * cl + V := by omega
  rcases Nat.lt_trichotomy c cl with h' | h' | h'
  · have : BL * (c + 1) ≤ BL * cl := Nat.mul_le_mul_left _ h'
    rw [Nat.mul_add, Nat.mul_one] at this; omega
  · subst h'; omega
  · have : BL * (cl + 1) ≤ BL * c := Nat.mul_le_mul_left _ h'
    rw [Nat.mul_add, Nat.mul_one] at this; omega

theorem getD_lt {B : Nat} (hB : 1 < B) {xs : List Nat} (h : ∀ d ∈ xs, d < B) (i : Nat) : xs.getD i 0 < B := by
  rw [List.getD_eq_getElem?_getD]
  by_cases hi : i < xs.length
  · rw [List.getElem?_eq_getElem hi]; exact h _ (List.getElem_mem hi)
  · rw [List.getElem?_eq_none (by omega)]; simp; omega
theorem getD_some {xs : List Nat} {i : Nat} (h : i < xs.length) : xs[i]? = some (xs.getD i 0) := by rw [List.getElem?_eq_getElem h, List.getD_eq_getElem?_getD, List.getElem?_eq_getElem h]; rfl
theorem getD_none {xs : List Nat} {i : Nat} (h : ¬ i < xs.length) : xs.getD i 0 = 0 := by rw [List.getD_eq_getElem?_getD, List.getElem?_eq_none (by omega)]; rfl
def awayV (W V t : Nat) : Nat := if W < t * V then W + V - t * V else W - t * V
theorem i_takeAway {fr : Nat → AV} {h : Nat → Blk} {nx id n : Nat} {pre ws post : List Nat} {ex gr : Bool} (b t : Nat) (hb : h id = ⟨128, natA .u32 (pre ++ ws ++ post), ex, gr, true⟩) (hn : (pre ++ ws ++ post).length = n)
    (hd : ∀ d ∈ ws, d < B32) (hl : (enc B32 b).length < ws.length) (hlen : n ≤ 1099511627777) (ht : t < B32) (hle : t * b ≤ val B32 ws + b) :
    InOk Tryz.prog ⟨fr, h, nx⟩ 107 [.ref id n pre.length ws.length, natI b, .int .u64 t] (.bool (decide (val B32 ws < t * b)))
      ⟨fr, upd h id ⟨128, natA .u32 (pre ++ padL B32 ws.length (awayV (val B32 ws) b t) ++ post), ex, gr, true⟩, nx⟩ := by
  refine inOk_of_wpc (W := fun _ => false) hm' Tryz.func107 rfl (by kernel_rfl) (Nat.le_of_ble_eq_true rfl) (go_start ?_)
  generalize hQ : PostIn Tryz.prog Tryz.f107 _ _ _ = Q
  have hB : B32 = 4294967296 := rfl
  obtain ⟨L, hL⟩ : ∃ L, ws.length = L := ⟨_, rfl⟩
  have hnn : pre.length + L + post.length = n := by simp at hn; omega
  have hbl : (natA .u32 (pre ++ ws ++ post)).length = n := by rw [natA_length, hn]
  simp (disch := omega) only [go_sem, ↓k_cond, ↓x_idx, ↓k_block, Nat.reduceEqDiff, Nat.reduceBEq, ↓reduceIte, reduceCtorEq, hL, hb, hbl]
  have hWlt : val B32 ws < B32 ^ L := by rw [← hL]; exact val_lt hd
  have hVlt : b ≤ B32 ^ L := by
    have h1 := enc_len_pow B32_gt (n := b)
    have h2 := Nat.pow_le_pow_right (show 0 < B32 by decide) (show (enc B32 b).length ≤ L by omega)
    omega
  have key1 : ∀ st : St, ∀ ds : List Nat, ∀ e : Bool, ds.length = L → (∀ d ∈ ds, d < B32) → e = decide (val B32 ws < t * b) → val B32 ds = awayV (val B32 ws) b t → st.fr 6 = .bool e → st.h = upd h id ⟨128, natA .u32 (pre ++ ds ++ post), ex, gr, true⟩ → st.nx = nx → Q .ret st := by
    intro st ds e k1 k2 k3 k4 k5 k6 k7
    rw [← hQ]
    refine postIn_one (.inl rfl) rfl (by rw [k5, k3]) ?_ k7
    rw [k6, hL, pad_of B32_gt k2 k1 k4]
  refine k_loop (fun (p : Nat × Nat × Nat × List Nat) st => st.fr 0 = .ref id n pre.length L ∧ st.fr 1 = natI b ∧ st.fr 2 = .int .u64 t ∧ st.fr 7 = .int .u64 p.2.1 ∧ st.fr 8 = .int .i64 p.2.2.1 ∧ st.fr 12 = .ref id n pre.length L ∧ st.fr 13 = .int .i64 L ∧ st.fr 14 = .int .i64 p.1 ∧
      st.h = upd h id ⟨128, natA .u32 (pre ++ p.2.2.2 ++ post), ex, gr, true⟩ ∧ st.nx = nx ∧ p.2.2.2.length = L ∧ p.1 ≤ L ∧ p.2.1 < B32 ∧ p.2.2.1 ≤ 1 ∧ (∀ q ∈ p.2.2.2, q < B32) ∧ p.2.2.2.drop p.1 = ws.drop p.1 ∧
      val B32 (p.2.2.2.take p.1) + t * val B32 ((enc B32 b).take p.1) = val B32 (ws.take p.1) + B32 ^ p.1 * (p.2.1 + p.2.2.1)) (fun p => L - p.1) (0, 0, 0, ws)
    ⟨(by simp [upd_app] <;> omega), (by simp [upd_app, natI] <;> omega), (by simp [upd_app] <;> omega), (by simp [upd_app] <;> omega), (by simp [upd_app] <;> omega), (by simp [upd_app] <;> omega), (by simp [upd_app] <;> omega), (by simp [upd_app] <;> omega), by funext j; simp only [upd_app]; split <;> simp_all, rfl, hL, by simp, by simp [B32], by simp, hd, rfl, by simp [val]⟩ ?_
  clear hL hbl
  rintro ⟨i, c, l, ds⟩ ⟨fr1, h1, nx1⟩ ⟨h0, k1, h2, h7, h8, h12, h13, h14, eh, enx, hdl, hi, hc, hl1, hq, hdr, hv⟩ J hJ
  simp only [natI] at h0 k1 h2 h7 h8 h12 h13 h14 eh enx hdl hi hc hl1 hq hdr hv
  subst eh enx
  have hal : (natA .u32 (pre ++ ds ++ post)).length = n := by rw [natA_length]; simp; omega
  by_cases hin : i < L
  · obtain ⟨x, hx⟩ := get_some (xs := ds) (i := i) (by omega)
    have hxw : ws[i]? = some x := by
      have := congrArg (·[0]?) hdr
      simp only [List.getElem?_drop, Nat.add_zero] at this; rw [← this]; exact hx
    have hxB := hq x (List.mem_of_getElem? hx)
    have hrd := (mid_get (pre := pre) (post := post) (show i < ds.length by omega)).trans hx
    have hwr := fun e => mid_set (pre := pre) (post := post) (e := e) (show i < ds.length by omega)
    obtain ⟨y, hy⟩ : ∃ y, (enc B32 b).getD i 0 = y := ⟨_, rfl⟩
    have hyB : y < B32 := hy ▸ getD_lt B32_gt (enc_lt B32_gt b) i
    have hvy := val_take_or (B := B32) (xs := enc B32 b) (i := i)
    rw [hy] at hvy
    obtain ⟨s1, s2⟩ := take_step (l := l) (x := x) hc ht hyB
    obtain ⟨low, hlow⟩ : ∃ low, (c + t * y) % B32 = low := ⟨_, rfl⟩
    obtain ⟨c', hc'⟩ : ∃ c', (c + t * y) / B32 = c' := ⟨_, rfl⟩
    have hlowB : low < B32 := hlow ▸ Nat.mod_lt _ (by decide)
    have key : ∀ (e l' : Nat) (st : St), e < B32 → l' ≤ 1 → e + low + l = x + B32 * l' → st.fr 0 = .ref id n pre.length L → st.fr 1 = natI b → st.fr 2 = .int .u64 t → st.fr 7 = .int .u64 c' → st.fr 8 = .int .i64 l' → st.fr 12 = .ref id n pre.length L → st.fr 13 = .int .i64 L → st.fr 14 = .int .i64 ((i + 1 : Nat) : Int) →
        st.h = upd h id ⟨128, natA .u32 (pre ++ ds.set i e ++ post), ex, gr, true⟩ → st.nx = nx1 → J st := by
      intro e l' st he hl' hel r0 r1 r2 r7 r8 r12 r13 r14 rh rn
      refine hJ (i + 1, c', l', ds.set i e) st ⟨r0, r1, r2, r7, r8, r12, r13, r14, rh, rn, by simp [hdl], hin, hc' ▸ s1, hl', set_lt hq he, drop_set_succ hdr, ?_⟩ (by simp only; omega)
      simp only
      rw [val_take_set (by omega), hvy, val_take_succ hxw, ← hc']
      exact take_inv (T := 0) hv (by rw [hlow]; exact hel)
    clear hJ key1 hv s1 hvy hdr hd hWlt hVlt hle hl hxw hq
    obtain ⟨z, hz⟩ : ∃ z, t * y = z := ⟨_, rfl⟩
    rw [hz] at hlow hc' s2
    rw [hB] at hxB hyB hlow hc' hlowB hc ht s2
    have hupd : ∀ z w : Blk, upd (upd h id z) id w = upd h id w := by intro z w; funext j; simp only [upd_app]; split <;> rfl
    by_cases hiy : i < (enc B32 b).length
    · have hyw := getD_some hiy
      rw [hy] at hyw
      by_cases hneg : x < low + l
      · have hw3 : IntKind.u32.wrap ((x : Int) - (low : Int) - (l : Int)) = ((x + 4294967296 - low - l : Nat) : Int) := by rw [wrapU32neg (by omega) (by omega)]; omega
        simp (disch := omega) only [go_sem, ↓k_cond, ↓x_idx, ↓k_block, Nat.reduceEqDiff, Nat.reduceBEq, ↓reduceIte, reduceCtorEq, h0, k1, h2, h7, h8, h12, h13, h14, hal, hrd, hwr, hyw, hz, hlow, hc', wrapU32, wrapU32m, hw3, hupd]
        exact key (x + 4294967296 - low - l) 1 _ (by rw [hB]; omega) (by omega) (by rw [hB]; omega) (by simp [upd_app, h0] <;> omega) (by simp [upd_app, k1, natI] <;> omega) (by simp [upd_app, h2] <;> omega) (by simp [upd_app] <;> omega) (by simp [upd_app] <;> omega) (by simp [upd_app, h12] <;> omega) (by simp [upd_app, h13] <;> omega) (by simp [upd_app] <;> omega) rfl rfl
      · have hw3 : IntKind.u32.wrap ((x : Int) - (low : Int) - (l : Int)) = ((x - low - l : Nat) : Int) := by rw [wrapU32 (by omega) (by omega)]; omega
        simp (disch := omega) only [go_sem, ↓k_cond, ↓x_idx, ↓k_block, Nat.reduceEqDiff, Nat.reduceBEq, ↓reduceIte, reduceCtorEq, h0, k1, h2, h7, h8, h12, h13, h14, hal, hrd, hwr, hyw, hz, hlow, hc', wrapU32, wrapU32m, hw3, hupd]
        exact key (x - low - l) 0 _ (by rw [hB]; omega) (by omega) (by rw [hB]; omega) (by simp [upd_app, h0] <;> omega) (by simp [upd_app, k1, natI] <;> omega) (by simp [upd_app, h2] <;> omega) (by simp [upd_app] <;> omega) (by simp [upd_app] <;> omega) (by simp [upd_app, h12] <;> omega) (by simp [upd_app, h13] <;> omega) (by simp [upd_app] <;> omega) rfl rfl
    · have hyw := getD_none hiy
      rw [hy] at hyw
      have hz0 : z = 0 := by rw [← hz, hyw, Nat.mul_zero]
      rw [hz0, Nat.add_zero] at hlow hc'
      obtain rfl : low = c := by omega
      by_cases hneg : x < low + l
      · have hw3 : IntKind.u32.wrap ((x : Int) - (low : Int) - (l : Int)) = ((x + 4294967296 - low - l : Nat) : Int) := by rw [wrapU32neg (by omega) (by omega)]; omega
        simp (disch := omega) only [go_sem, ↓k_cond, ↓x_idx, ↓k_block, Nat.reduceEqDiff, Nat.reduceBEq, ↓reduceIte, reduceCtorEq, h0, k1, h2, h7, h8, h12, h13, h14, hal, hrd, hwr, hlow, hc', wrapU32, wrapU32m, hw3, hupd]
        exact key (x + 4294967296 - low - l) 1 _ (by rw [hB]; omega) (by omega) (by rw [hB]; omega) (by simp [upd_app, h0] <;> omega) (by simp [upd_app, k1, natI] <;> omega) (by simp [upd_app, h2] <;> omega) (by simp [upd_app] <;> omega) (by simp [upd_app] <;> omega) (by simp [upd_app, h12] <;> omega) (by simp [upd_app, h13] <;> omega) (by simp [upd_app] <;> omega) rfl rfl
      · have hw3 : IntKind.u32.wrap ((x : Int) - (low : Int) - (l : Int)) = ((x - low - l : Nat) : Int) := by rw [wrapU32 (by omega) (by omega)]; omega
        simp (disch := omega) only [go_sem, ↓k_cond, ↓x_idx, ↓k_block, Nat.reduceEqDiff, Nat.reduceBEq, ↓reduceIte, reduceCtorEq, h0, k1, h2, h7, h8, h12, h13, h14, hal, hrd, hwr, hlow, hc', wrapU32, wrapU32m, hw3, hupd]
        exact key (x - low - l) 0 _ (by rw [hB]; omega) (by omega) (by rw [hB]; omega) (by simp [upd_app, h0] <;> omega) (by simp [upd_app, k1, natI] <;> omega) (by simp [upd_app, h2] <;> omega) (by simp [upd_app] <;> omega) (by simp [upd_app] <;> omega) (by simp [upd_app, h12] <;> omega) (by simp [upd_app, h13] <;> omega) (by simp [upd_app] <;> omega) rfl rfl
  · obtain rfl : i = L := by omega
    have e1 : ds.take i = ds := List.take_of_length_le (by omega)
    have e2 : ws.take i = ws := List.take_of_length_le (by rw [← hdl]; have := congrArg List.length hdr; simp at this; omega)
    have e3 : (enc B32 b).take i = enc B32 b := List.take_of_length_le (by have := congrArg List.length hdr; simp at this; omega)
    rw [e1, e2, e3, val_enc B32_gt] at hv
    have hDlt : val B32 ds < B32 ^ i := by rw [← hdl]; exact val_lt hq
    by_cases hcl : c = 0 ∧ l = 0
    · obtain ⟨rfl, rfl⟩ := hcl
      obtain ⟨f1, f2⟩ := take_fits hDlt hv rfl
      simp (disch := omega) only [go_sem, ↓k_cond, ↓x_idx, ↓k_block, Nat.reduceEqDiff, Nat.reduceBEq, ↓reduceIte, reduceCtorEq, h0, k1, h2, h7, h8, h12, h13, h14, hal]
      exact key1 _ ds false hdl hq (by simp [f1]) (by rw [awayV, if_neg f1, f2]) (by simp [upd_app] <;> omega) rfl rfl
    · have hcl0 : c + l ≠ 0 := by omega
      have hWi : val B32 ws < B32 ^ i := hWlt
      have fin := fun (es : List Nat) (cc : Nat) (hE : val B32 es < B32 ^ i) (h2 : val B32 es + B32 ^ i * cc = val B32 ds + b) => take_over hDlt hWi hE hv hcl0 hle hVlt h2
      have hlen0 : (enc B32 b).length ≤ i := by have := congrArg List.length hdr; simp at this; omega
      have hupd : ∀ z w : Blk, upd (upd h id z) id w = upd h id w := by intro z w; funext j; simp only [upd_app]; split <;> rfl
      obtain ⟨R, hR⟩ : ∃ R : Nat × Nat × List Nat → St → Prop, R = fun p st => st.fr 0 = .ref id n pre.length i ∧ st.fr 1 = natI b ∧ st.fr 7 = .int .u64 p.2.1 ∧ st.fr 57 = .ref id n pre.length i ∧ st.fr 58 = .int .i64 i ∧ st.fr 59 = .int .i64 p.1 ∧
            st.h = upd h id ⟨128, natA .u32 (pre ++ p.2.2 ++ post), ex, gr, true⟩ ∧ st.nx = nx1 ∧ p.2.2.length = i ∧ p.1 ≤ i ∧ p.2.1 ≤ 1 ∧ (∀ q ∈ p.2.2, q < B32) ∧ p.2.2.drop p.1 = ds.drop p.1 ∧ val B32 (p.2.2.take p.1) + B32 ^ p.1 * p.2.1 = val B32 (ds.take p.1) + val B32 ((enc B32 b).take p.1) := ⟨_, rfl⟩
      rcases (by omega : l = 1 ∨ (l = 0 ∧ c ≠ 0)) with rfl | ⟨rfl, hc0⟩
      · simp (disch := omega) only [go_sem, ↓k_cond, ↓x_idx, ↓k_block, Nat.reduceEqDiff, Nat.reduceBEq, ↓reduceIte, reduceCtorEq, h0, k1, h2, h7, h8, h12, h13, h14, hal]
        refine k_loop R (fun p => i - p.1) (0, 0, ds) (by rw [hR]; exact ⟨(by simp [upd_app, h0] <;> omega), (by simp [upd_app, k1, natI] <;> omega), (by simp [upd_app] <;> omega), (by simp [upd_app] <;> omega), (by simp [upd_app] <;> omega), (by simp [upd_app] <;> omega), rfl, rfl, hdl, by simp, by simp, hq, rfl, by simp [val]⟩) ?_
        clear h0 k1 h2 h7 h8 h12 h13 h14
        rintro ⟨k, c2, es⟩ ⟨fr2, h2, nx2⟩ hst J2 hJ2
        rw [hR] at hst
        obtain ⟨h0, k1, h7, h57, h58, h59, eh, enx, hel, hk, hc2, hp, hdr2, hw⟩ := hst
        simp only [natI] at h0 k1 h7 h57 h58 h59 eh enx hel hk hc2 hp hdr2 hw
        subst eh enx
        have hal : (natA .u32 (pre ++ es ++ post)).length = n := by rw [natA_length]; simp; omega
        by_cases hki : k < i
        · obtain ⟨x, hx⟩ := get_some (xs := es) (i := k) (by omega)
          have hxd : ds[k]? = some x := by
            have := congrArg (·[0]?) hdr2
            simp only [List.getElem?_drop, Nat.add_zero] at this; rw [← this]; exact hx
          have hxB := hp x (List.mem_of_getElem? hx)
          have hrd := (mid_get (pre := pre) (post := post) (show k < es.length by omega)).trans hx
          have hwr := fun e => mid_set (pre := pre) (post := post) (e := e) (show k < es.length by omega)
          obtain ⟨y, hy⟩ : ∃ y, (enc B32 b).getD k 0 = y := ⟨_, rfl⟩
          have hyB : y < B32 := hy ▸ getD_lt B32_gt (enc_lt B32_gt b) k
          have hvy := val_take_or (B := B32) (xs := enc B32 b) (i := k)
          rw [hy] at hvy
          obtain ⟨s1, s2, _⟩ := add_step B32_gt hc2 hxB hyB
          have key : ∀ (st : St), st.fr 0 = .ref id n pre.length i → st.fr 1 = natI b → st.fr 7 = .int .u64 ((c2 + x + y) / 4294967296 : Nat) → st.fr 57 = .ref id n pre.length i → st.fr 58 = .int .i64 i → st.fr 59 = .int .i64 ((k + 1 : Nat) : Int) →
              st.h = upd h id ⟨128, natA .u32 (pre ++ es.set k ((c2 + x + y) % 4294967296) ++ post), ex, gr, true⟩ → st.nx = nx2 → J2 st := by
            intro st r0 r1 r7 r57 r58 r59 rh rn
            refine hJ2 (k + 1, (c2 + x + y) / B32, es.set k ((c2 + x + y) % B32)) st ?_ (by simp only; omega)
            rw [hR]
            refine ⟨r0, r1, r7, r57, r58, r59, rh, rn, by simp [hel], hki, s1, set_lt hp s2, drop_set_succ hdr2, ?_⟩
            simp only
            rw [val_take_set (by omega), hvy, val_take_succ hxd]
            exact back_inv hw
          clear hJ2 hJ key1 hv hw s1 s2 hvy hdr hdr2 hd hWlt hWi hVlt hle hl hxd hq hp fin hR hDlt
          rw [hB] at hxB hyB
          by_cases hky : k < (enc B32 b).length
          · have hyw := getD_some hky
            rw [hy] at hyw
            simp (disch := omega) only [go_sem, ↓k_cond, ↓x_idx, ↓k_block, Nat.reduceEqDiff, Nat.reduceBEq, ↓reduceIte, reduceCtorEq, h0, k1, h7, h57, h58, h59, hal, hrd, hwr, hyw, wrapU32, wrapU32m, hupd]
            exact key _ (by simp [upd_app, h0] <;> omega) (by simp [upd_app, k1, natI] <;> omega) (by simp [upd_app] <;> omega) (by simp [upd_app, h57] <;> omega) (by simp [upd_app, h58] <;> omega) (by simp [upd_app] <;> omega) rfl rfl
          · have hyw := getD_none hky
            rw [hy] at hyw
            subst hyw
            simp only [Nat.add_zero] at key
            simp (disch := omega) only [go_sem, ↓k_cond, ↓x_idx, ↓k_block, Nat.reduceEqDiff, Nat.reduceBEq, ↓reduceIte, reduceCtorEq, h0, k1, h7, h57, h58, h59, hal, hrd, hwr, wrapU32, wrapU32m, hupd]
            exact key _ (by simp [upd_app, h0] <;> omega) (by simp [upd_app, k1, natI] <;> omega) (by simp [upd_app] <;> omega) (by simp [upd_app, h57] <;> omega) (by simp [upd_app, h58] <;> omega) (by simp [upd_app] <;> omega) rfl rfl
        · obtain rfl : k = i := by omega
          have f1 : es.take k = es := List.take_of_length_le (by omega)
          rw [f1, e1, e3, val_enc B32_gt] at hw
          have hElt : val B32 es < B32 ^ k := by rw [← hel]; exact val_lt hp
          obtain ⟨g1, g2⟩ := fin es c2 hElt hw
          simp (disch := omega) only [go_sem, ↓k_cond, ↓x_idx, ↓k_block, Nat.reduceEqDiff, Nat.reduceBEq, ↓reduceIte, reduceCtorEq, h0, k1, h7, h57, h58, h59, hal]
          exact key1 _ es true hel hp (by simp [g1]) (by rw [awayV, if_pos g1, g2]) (by simp [upd_app] <;> omega) rfl rfl
      · simp (disch := omega) only [go_sem, ↓k_cond, ↓x_idx, ↓k_block, Nat.reduceEqDiff, Nat.reduceBEq, ↓reduceIte, reduceCtorEq, h0, k1, h2, h7, h8, h12, h13, h14, hal]
        refine k_loop R (fun p => i - p.1) (0, 0, ds) (by rw [hR]; exact ⟨(by simp [upd_app, h0] <;> omega), (by simp [upd_app, k1, natI] <;> omega), (by simp [upd_app] <;> omega), (by simp [upd_app] <;> omega), (by simp [upd_app] <;> omega), (by simp [upd_app] <;> omega), rfl, rfl, hdl, by simp, by simp, hq, rfl, by simp [val]⟩) ?_
        clear h0 k1 h2 h7 h8 h12 h13 h14
        rintro ⟨k, c2, es⟩ ⟨fr2, h2, nx2⟩ hst J2 hJ2
        rw [hR] at hst
        obtain ⟨h0, k1, h7, h57, h58, h59, eh, enx, hel, hk, hc2, hp, hdr2, hw⟩ := hst
        simp only [natI] at h0 k1 h7 h57 h58 h59 eh enx hel hk hc2 hp hdr2 hw
        subst eh enx
        have hal : (natA .u32 (pre ++ es ++ post)).length = n := by rw [natA_length]; simp; omega
        by_cases hki : k < i
        · obtain ⟨x, hx⟩ := get_some (xs := es) (i := k) (by omega)
          have hxd : ds[k]? = some x := by
            have := congrArg (·[0]?) hdr2
            simp only [List.getElem?_drop, Nat.add_zero] at this; rw [← this]; exact hx
          have hxB := hp x (List.mem_of_getElem? hx)
          have hrd := (mid_get (pre := pre) (post := post) (show k < es.length by omega)).trans hx
          have hwr := fun e => mid_set (pre := pre) (post := post) (e := e) (show k < es.length by omega)
          obtain ⟨y, hy⟩ : ∃ y, (enc B32 b).getD k 0 = y := ⟨_, rfl⟩
          have hyB : y < B32 := hy ▸ getD_lt B32_gt (enc_lt B32_gt b) k
          have hvy := val_take_or (B := B32) (xs := enc B32 b) (i := k)
          rw [hy] at hvy
          obtain ⟨s1, s2, _⟩ := add_step B32_gt hc2 hxB hyB
          have key : ∀ (st : St), st.fr 0 = .ref id n pre.length i → st.fr 1 = natI b → st.fr 7 = .int .u64 ((c2 + x + y) / 4294967296 : Nat) → st.fr 57 = .ref id n pre.length i → st.fr 58 = .int .i64 i → st.fr 59 = .int .i64 ((k + 1 : Nat) : Int) →
              st.h = upd h id ⟨128, natA .u32 (pre ++ es.set k ((c2 + x + y) % 4294967296) ++ post), ex, gr, true⟩ → st.nx = nx2 → J2 st := by
            intro st r0 r1 r7 r57 r58 r59 rh rn
            refine hJ2 (k + 1, (c2 + x + y) / B32, es.set k ((c2 + x + y) % B32)) st ?_ (by simp only; omega)
            rw [hR]
            refine ⟨r0, r1, r7, r57, r58, r59, rh, rn, by simp [hel], hki, s1, set_lt hp s2, drop_set_succ hdr2, ?_⟩
            simp only
            rw [val_take_set (by omega), hvy, val_take_succ hxd]
            exact back_inv hw
          clear hJ2 hJ key1 hv hw s1 s2 hvy hdr hdr2 hd hWlt hWi hVlt hle hl hxd hq hp fin hR hDlt
          rw [hB] at hxB hyB
          by_cases hky : k < (enc B32 b).length
          · have hyw := getD_some hky
            rw [hy] at hyw
            simp (disch := omega) only [go_sem, ↓k_cond, ↓x_idx, ↓k_block, Nat.reduceEqDiff, Nat.reduceBEq, ↓reduceIte, reduceCtorEq, h0, k1, h7, h57, h58, h59, hal, hrd, hwr, hyw, wrapU32, wrapU32m, hupd]
            exact key _ (by simp [upd_app, h0] <;> omega) (by simp [upd_app, k1, natI] <;> omega) (by simp [upd_app] <;> omega) (by simp [upd_app, h57] <;> omega) (by simp [upd_app, h58] <;> omega) (by simp [upd_app] <;> omega) rfl rfl
          · have hyw := getD_none hky
            rw [hy] at hyw
            subst hyw
            simp only [Nat.add_zero] at key
            simp (disch := omega) only [go_sem, ↓k_cond, ↓x_idx, ↓k_block, Nat.reduceEqDiff, Nat.reduceBEq, ↓reduceIte, reduceCtorEq, h0, k1, h7, h57, h58, h59, hal, hrd, hwr, wrapU32, wrapU32m, hupd]
            exact key _ (by simp [upd_app, h0] <;> omega) (by simp [upd_app, k1, natI] <;> omega) (by simp [upd_app] <;> omega) (by simp [upd_app, h57] <;> omega) (by simp [upd_app, h58] <;> omega) (by simp [upd_app] <;> omega) rfl rfl
        · obtain rfl : k = i := by omega
          have f1 : es.take k = es := List.take_of_length_le (by omega)
          rw [f1, e1, e3, val_enc B32_gt] at hw
          have hElt : val B32 es < B32 ^ k := by rw [← hel]; exact val_lt hp
          obtain ⟨g1, g2⟩ := fin es c2 hElt hw
          simp (disch := omega) only [go_sem, ↓k_cond, ↓x_idx, ↓k_block, Nat.reduceEqDiff, Nat.reduceBEq, ↓reduceIte, reduceCtorEq, h0, k1, h7, h57, h58, h59, hal]
          exact key1 _ es true hel hp (by simp [g1]) (by rw [awayV, if_pos g1, g2]) (by simp [upd_app] <;> omega) rfl rfl
theorem c_TakeOff : callable Tryz.prog 111 = true := by kernel_rfl
theorem c_PutBack : callable Tryz.prog 112 = true := by kernel_rfl
def offA (W V d n : Nat) : List AV := if W < d * V then natA .i64 (padL B9 (n + 2) (W + B9 ^ (n + 2) - d * V)) ++ [.int .i64 (-1)] else natA .i64 (padL B9 (n + 3) (W - d * V))
theorem off_fits {D Bn V W Wl wt c d : Nat} (hD : D < Bn) (h : D + d * V = Wl + Bn * c) (hW : W = Wl + Bn * wt) (hc : c ≤ wt) : ¬ W < d * V ∧ D + Bn * (wt - c) = W - d * V := by
 obtain ⟨k, rfl⟩ : ∃ k, wt = c + k := ⟨wt - c, by omega⟩
 rw [Nat.mul_add] at hW
 rw [Nat.add_sub_cancel_left]; omega
theorem off_over {D Bn V W Wl wt c d : Nat} (hD : D < Bn) (h : D + d * V = Wl + Bn * c) (hW : W = Wl + Bn * wt) (hV : V < Bn) (hle : d * V ≤ W + V) (hc : ¬ c ≤ wt) : W < d * V ∧ c = wt + 1 ∧ D = W + Bn - d * V := by
  obtain ⟨k, rfl⟩ : ∃ k, c = wt + 1 + k := ⟨c - (wt + 1), by omega⟩
  rw [Nat.mul_add, Nat.mul_add, Nat.mul_one] at h
  rcases Nat.eq_zero_or_pos k with rfl | hk
  · refine ⟨?_, by omega, ?_⟩ <;> simp at h <;> omega
  · have : Bn * 1 ≤ Bn * k := Nat.mul_le_mul_left _ hk
    omega
theorem off_inv {B i c x y e c' D d W V : Nat} (h : D + d * V = W + B ^ i * c) (he : e + y * d + c = x + B * c') : (D + B ^ i * e) + d * (V + B ^ i * y) = (W + B ^ i * x) + B ^ (i + 1) * c' := by
 have h1 : B ^ i * (e + y * d + c) = B ^ i * (x + B * c') := by rw [he]
 have h3 : B ^ (i + 1) * c' = B ^ i * (B * c') := by rw [Nat.pow_succ, Nat.mul_assoc]
 have h4 : d * (V + B ^ i * y) = d * V + B ^ i * (y * d) := by rw [Nat.mul_add, Nat.mul_comm y d, Nat.mul_left_comm]
 rw [h3, h4]
 rw [Nat.mul_add, Nat.mul_add, Nat.mul_add] at h1
 omega
theorem natA_mid {k : IntKind} {pre ws post : List Nat} : natA k (pre ++ ws ++ post) = natA k pre ++ natA k ws ++ natA k post := by simp [natA]
theorem natA_inj_set {k : IntKind} {pre ds post : List Nat} {i : Nat} {v : AV} (h : i < ds.length) : (natA k (pre ++ ds ++ post)).set (pre.length + i) v = natA k pre ++ (natA k ds).set i v ++ natA k post := by
 rw [natA_mid, ← natA_length k pre, mid_set (by rw [natA_length]; exact h)]

set_option maxHeartbeats 2000000 in
theorem s_TakeOff {fr : Nat → AV} {h : Nat → Blk} {nx id n m : Nat} {pre ws post : List Nat} {ex gr : Bool} (b d : Nat) (hb : h id = ⟨2, natA .i64 (pre ++ ws ++ post), ex, gr, true⟩) (hn : (pre ++ ws ++ post).length = m)
    (hd : ∀ d ∈ ws, d < B9) (hl : (enc B9 b).length = n + 2) (hwl : ws.length = n + 3) (hlen : m ≤ 1099511627777) (ht : d < B9) (hle : d * b ≤ val B9 ws + b) :
    InOk Tryz.prog ⟨fr, h, nx⟩ 111 [.ref id m 0 m, natS b, .int .i64 pre.length, .int .i64 d] (.bool (decide (val B9 ws < d * b)))
      ⟨fr, upd h id ⟨2, natA .i64 pre ++ offA (val B9 ws) b d n ++ natA .i64 post, ex, gr, true⟩, nx⟩ := by
  refine inOk_of_wpc (W := fun _ => false) hm' Tryz.func111 rfl (by kernel_rfl) (Nat.le_of_ble_eq_true rfl) (go_start ?_)
  generalize hQ : PostIn Tryz.prog Tryz.f111 _ _ _ = Q
  have hB : B9 = 1000000000 := rfl
  have hnn : pre.length + (n + 3) + post.length = m := by simp at hn; omega
  have hupd : ∀ z w : Blk, upd (upd h id z) id w = upd h id w := by intro z w; funext j; simp only [upd_app]; split <;> rfl
  have hbN : b < B9 ^ (n + 2) := by rw [← hl]; exact enc_len_pow B9_gt
  obtain ⟨wt, hwt⟩ := get_some (xs := ws) (i := n + 2) (by omega)
  have hwtB := hd wt (List.mem_of_getElem? hwt)
  have hWs : val B9 ws = val B9 (ws.take (n + 2)) + B9 ^ (n + 2) * wt := by
    have := val_take_succ (B := B9) hwt
    rwa [List.take_of_length_le (by omega)] at this
  simp (disch := omega) only [go_sem, ↓k_cond, ↓x_idx, ↓k_block, Nat.reduceEqDiff, Nat.reduceBEq, ↓reduceIte, reduceCtorEq, hl, natS]
  refine k_loop (fun (p : Nat × Nat × List Nat) st => st.fr 0 = .ref id m 0 m ∧ st.fr 1 = natS b ∧ st.fr 2 = .int .i64 pre.length ∧ st.fr 3 = .int .i64 d ∧ st.fr 9 = .int .i64 p.2.1 ∧ st.fr 13 = natS b ∧ st.fr 14 = .int .i64 ((n + 2 : Nat) : Int) ∧ st.fr 15 = .int .i64 p.1 ∧
      st.h = upd h id ⟨2, natA .i64 (pre ++ p.2.2 ++ post), ex, gr, true⟩ ∧ st.nx = nx ∧ p.2.2.length = n + 3 ∧ p.1 ≤ n + 2 ∧ p.2.1 ≤ B9 ∧ (∀ q ∈ p.2.2, q < B9) ∧ p.2.2.drop p.1 = ws.drop p.1 ∧
      val B9 (p.2.2.take p.1) + d * val B9 ((enc B9 b).take p.1) = val B9 (ws.take p.1) + B9 ^ p.1 * p.2.1) (fun p => n + 2 - p.1) (0, 0, ws)
    ⟨(by simp [upd_app] <;> omega), (by simp [upd_app, natS] <;> omega), (by simp [upd_app] <;> omega), (by simp [upd_app] <;> omega), (by simp [upd_app] <;> omega), (by simp [upd_app, natS] <;> omega), (by simp [upd_app] <;> omega), (by simp [upd_app] <;> omega), by funext j; simp only [upd_app]; split <;> simp_all, rfl, hwl, by simp, by simp, hd, rfl, by simp [val]⟩ ?_
  rintro ⟨i, c, ds⟩ ⟨fr1, h1, nx1⟩ ⟨h0, k1, h2, h3, h9, h13, h14, h15, eh, enx, hdl, hi, hc, hq, hdr, hv⟩ J hJ
  simp only [natS] at h0 k1 h2 h3 h9 h13 h14 h15 eh enx hdl hi hc hq hdr hv
  subst eh enx
  have hal : (natA .i64 (pre ++ ds ++ post)).length = m := by rw [natA_length]; simp; omega
  by_cases hin : i < n + 2
  · obtain ⟨x, hx⟩ := get_some (xs := ds) (i := i) (by omega)
    have hxw : ws[i]? = some x := by
      have := congrArg (·[0]?) hdr
      simp only [List.getElem?_drop, Nat.add_zero] at this; rw [← this]; exact hx
    have hxB := hq x (List.mem_of_getElem? hx)
    have hrd := (mid_get (pre := pre) (post := post) (show i < ds.length by omega)).trans hx
    have hwr := fun e => mid_set (pre := pre) (post := post) (e := e) (show i < ds.length by omega)
    obtain ⟨y, hy⟩ := get_some (xs := enc B9 b) (i := i) (by omega)
    have hyB := enc_lt B9_gt b y (List.mem_of_getElem? hy)
    have hvy := val_take_succ (B := B9) hy
    obtain ⟨z, hz⟩ : ∃ z, y * d = z := ⟨_, rfl⟩
    have hzb : z ≤ 999999999 * 999999999 := by rw [← hz]; exact Nat.mul_le_mul (by rw [hB] at hyB; omega) (by rw [hB] at ht; omega)
    have key : ∀ (e c' : Nat) (st : St), e < B9 → c' ≤ B9 → e + z + c = x + B9 * c' → st.fr 0 = .ref id m 0 m → st.fr 1 = natS b → st.fr 2 = .int .i64 pre.length → st.fr 3 = .int .i64 d → st.fr 9 = .int .i64 c' → st.fr 13 = natS b → st.fr 14 = .int .i64 ((n + 2 : Nat) : Int) → st.fr 15 = .int .i64 ((i + 1 : Nat) : Int) →
        st.h = upd h id ⟨2, natA .i64 (pre ++ ds.set i e ++ post), ex, gr, true⟩ → st.nx = nx1 → J st := by
      intro e c' st he hc' hel r0 r1 r2 r3 r9 r13 r14 r15 rh rn
      refine hJ (i + 1, c', ds.set i e) st ⟨r0, r1, r2, r3, r9, r13, r14, r15, rh, rn, by simp [hdl], hin, hc', set_lt hq he, drop_set_succ hdr, ?_⟩ (by simp only; omega)
      simp only
      rw [val_take_set (by omega), hvy, val_take_succ hxw]
      exact off_inv hv (by rw [hz]; exact hel)
    clear hJ hv hvy hdr hd hle hxw hq hWs hwt hwtB hbN hn hQ
    rw [hB] at hxB hyB hc ht key
    obtain ⟨q, hq⟩ : ∃ q, z / 1000000000 = q := ⟨_, rfl⟩
    obtain ⟨r, hr⟩ : ∃ r, z % 1000000000 = r := ⟨_, rfl⟩
    have hzz : z = 1000000000 * q + r := by omega
    have hrb : r < 1000000000 := by omega
    have hqb : q ≤ 999999998 := by omega
    by_cases hn1 : x < r + c
    · by_cases hn2 : x + 1000000000 < r + c
      · have w1 : (x : Int) - (r : Int) - (c : Int) + 1000000000 + 1000000000 = ((x + 2000000000 - r - c : Nat) : Int) := by omega
        simp (disch := omega) only [go_sem, ↓k_cond, ↓x_idx, ↓k_block, Nat.reduceEqDiff, Nat.reduceBEq, ↓reduceIte, reduceCtorEq, h0, k1, h2, h3, h9, h13, h14, h15, hal, hrd, hy, hz, hq, hr, w1, hwr, hupd]
        exact key (x + 2000000000 - r - c) (q + 1 + 1) _ (by omega) (by omega) (by omega) (by simp [upd_app, h0] <;> omega) (by simp [upd_app, k1, natS] <;> omega) (by simp [upd_app, h2] <;> omega) (by simp [upd_app, h3] <;> omega) (by simp [upd_app] <;> omega) (by simp [upd_app, h13, natS] <;> omega) (by simp [upd_app, h14] <;> omega) (by simp [upd_app] <;> omega) rfl rfl
      · have w1 : (x : Int) - (r : Int) - (c : Int) + 1000000000 = ((x + 1000000000 - r - c : Nat) : Int) := by omega
        simp (disch := omega) only [go_sem, ↓k_cond, ↓x_idx, ↓k_block, Nat.reduceEqDiff, Nat.reduceBEq, ↓reduceIte, reduceCtorEq, h0, k1, h2, h3, h9, h13, h14, h15, hal, hrd, hy, hz, hq, hr, w1, hwr, hupd]
        exact key (x + 1000000000 - r - c) (q + 1) _ (by omega) (by omega) (by omega) (by simp [upd_app, h0] <;> omega) (by simp [upd_app, k1, natS] <;> omega) (by simp [upd_app, h2] <;> omega) (by simp [upd_app, h3] <;> omega) (by simp [upd_app] <;> omega) (by simp [upd_app, h13, natS] <;> omega) (by simp [upd_app, h14] <;> omega) (by simp [upd_app] <;> omega) rfl rfl
    · have w1 : (x : Int) - (r : Int) - (c : Int) = ((x - r - c : Nat) : Int) := by omega
      simp (disch := omega) only [go_sem, ↓k_cond, ↓x_idx, ↓k_block, Nat.reduceEqDiff, Nat.reduceBEq, ↓reduceIte, reduceCtorEq, h0, k1, h2, h3, h9, h13, h14, h15, hal, hrd, hy, hz, hq, hr, w1, hwr, hupd]
      exact key (x - r - c) q _ (by omega) (by omega) (by omega) (by simp [upd_app, h0] <;> omega) (by simp [upd_app, k1, natS] <;> omega) (by simp [upd_app, h2] <;> omega) (by simp [upd_app, h3] <;> omega) (by simp [upd_app] <;> omega) (by simp [upd_app, h13, natS] <;> omega) (by simp [upd_app, h14] <;> omega) (by simp [upd_app] <;> omega) rfl rfl
  · obtain rfl : i = n + 2 := by omega
    have e1 : (enc B9 b).take (n + 2) = enc B9 b := List.take_of_length_le (by omega)
    rw [e1, val_enc B9_gt] at hv
    have hlt : ((ds.take (n + 2)).length) = n + 2 := by simp; omega
    have hDlt : val B9 (ds.take (n + 2)) < B9 ^ (n + 2) := by
      have := val_lt (B := B9) (xs := ds.take (n + 2)) (fun q hq' => hq q (List.mem_of_mem_take hq')); rwa [hlt] at this
    have hdt : ds[n + 2]? = some wt := by
      have := congrArg (·[0]?) hdr
      simp only [List.getElem?_drop, Nat.add_zero] at this; rw [this]; exact hwt
    have hrd := (mid_get (pre := pre) (post := post) (show n + 2 < ds.length by omega)).trans hdt
    have hds : ds = ds.take (n + 2) ++ [wt] := by
      conv => lhs; rw [← List.take_append_drop (n + 2) ds, drop_cons hdt, List.drop_eq_nil_of_le (by omega)]
    have hset : ∀ v : AV, (natA .i64 (pre ++ ds ++ post)).set (pre.length + (n + 2)) v = natA .i64 pre ++ (natA .i64 (ds.take (n + 2)) ++ [v]) ++ natA .i64 post := by
      intro v
      rw [natA_inj_set (by omega)]
      congr 2
      conv => lhs; rw [hds]
      rw [← natA_append, List.set_append_right _ _ (by rw [natA_length]; omega), natA_length, hlt, Nat.sub_self]; rfl
    have hget : ∀ v : AV, (natA .i64 pre ++ (natA .i64 (ds.take (n + 2)) ++ [v]) ++ natA .i64 post)[pre.length + (n + 2)]? = some v := by
      intro v
      have := mid_get (pre := natA .i64 pre) (ds := natA .i64 (ds.take (n + 2)) ++ [v]) (post := natA .i64 post) (i := n + 2) (by rw [List.length_append, natA_length, hlt]; simp)
      rw [natA_length] at this
      rw [this, List.getElem?_append_right (by rw [natA_length]; omega), natA_length, hlt, Nat.sub_self]; rfl
    have hlen2 : ∀ v : AV, (natA .i64 pre ++ (natA .i64 (ds.take (n + 2)) ++ [v]) ++ natA .i64 post).length = m := by
      intro v; simp [natA_length]; omega
    have key : ∀ (e : Bool) (v : AV) (st : St), st.fr 8 = .bool e → st.h = upd h id ⟨2, natA .i64 pre ++ (natA .i64 (ds.take (n + 2)) ++ [v]) ++ natA .i64 post, ex, gr, true⟩ → st.nx = nx1 →
        e = decide (val B9 ws < d * b) → natA .i64 (ds.take (n + 2)) ++ [v] = offA (val B9 ws) b d n → Q .ret st := by
      intro e v st r8 rh rn he hv'
      rw [← hQ]
      exact postIn_one (.inl rfl) rfl (by rw [r8, he]) (by rw [rh, hv']) rn
    have hqt : ∀ q ∈ ds.take (n + 2), q < B9 := fun q hq' => hq q (List.mem_of_mem_take hq')
    rw [hB] at hc hwtB
    have hl2 := hl
    by_cases hcw : c ≤ wt
    · obtain ⟨f1, f2⟩ := off_fits hDlt hv hWs hcw
      have w1 : (wt : Int) - (c : Int) = ((wt - c : Nat) : Int) := by omega
      have hdc : false = decide (val B9 ws < d * b) := by simp [f1]
      have hfin : natA .i64 (ds.take (n + 2)) ++ [AV.int .i64 ((wt - c : Nat) : Int)] = offA (val B9 ws) b d n := by
        rw [offA, if_neg f1, natA_snoc]
        congr 1
        refine pad_of B9_gt (fun q hq' => ?_) (by simp [hlt]) (by rw [val_append, hlt]; simp [val]; exact f2)
        rcases List.mem_append.1 hq' with h' | h'
        · exact hqt q h'
        · simp at h'; rw [h', hB]; omega
      have hg3 := hget (.int .i64 ((wt - c : Nat) : Int))
      have hl3 := hlen2 (.int .i64 ((wt - c : Nat) : Int))
      simp only [natA_snoc, natA_append] at hg3 hl3
      rw [natA_length] at hl3
      rw [natA_at] at hg3
      obtain ⟨z, hz, hz2⟩ := Option.map_eq_some_iff.1 hg3
      obtain rfl : z = wt - c := by injection hz2; omega
      clear hJ hv hWs hle hdr hds hd hl f1 f2 hqt hq hDlt hbN hQ
      simp (disch := omega) only [go_sem, ↓k_cond, ↓x_idx, ↓k_block, Nat.reduceEqDiff, Nat.reduceBEq, ↓reduceIte, reduceCtorEq, h0, k1, h2, h3, h9, h13, h14, h15, hal, hl2, natA_length, hrd, w1, hset, hl3, hz, hupd]
      exact key false (.int .i64 ((wt - c : Nat) : Int)) _ (by simp [upd_app] <;> omega) (by simp only [natA_snoc, natA_append]) rfl hdc hfin
    · obtain ⟨f1, f2, f3⟩ := off_over hDlt hv hWs hbN hle hcw
      have w1 : (wt : Int) - (c : Int) = -1 := by omega
      have hfin : natA .i64 (ds.take (n + 2)) ++ [AV.int .i64 (-1)] = offA (val B9 ws) b d n := by
        rw [offA, if_pos f1]
        congr 2
        exact pad_of B9_gt hqt hlt f3
      have hdc : true = decide (val B9 ws < d * b) := by simp [f1]
      clear hJ hv hWs hle hdr hds hd hl f1 f2 f3 hqt hq hDlt hbN hQ
      simp (disch := omega) only [go_sem, ↓k_cond, ↓x_idx, ↓k_block, Nat.reduceEqDiff, Nat.reduceBEq, ↓reduceIte, reduceCtorEq, h0, k1, h2, h3, h9, h13, h14, h15, hal, hl2, natA_length, hrd, w1, hset, hget, hlen2, hupd]
      exact key true (.int .i64 (-1)) _ (by simp [upd_app] <;> omega) rfl rfl hdc hfin


theorem put_c {Pw d w b c : Nat} (h : d + Pw * c = w + b) (h1 : d < Pw) (h2 : Pw ≤ w + b) (hc : c ≤ 1) : c = 1 := by
  rcases Nat.eq_zero_or_pos c with rfl | h'
  · simp at h; omega
  · omega
theorem put_v {Pw d w b : Nat} (h : d + Pw * 1 = w + b) : d = w + b - Pw := by omega
theorem postIn_none {P : Program} {fn : Func} {st : St} {e : Ex} {h' : Nat → Blk} {nx' : Nat} (he : e = .ret ∨ e = .normal) (hr : fn.results.toList = []) (h1 : st.h = h') (h2 : st.nx = nx') : PostIn P fn (.tup []) h' nx' e st :=
 ⟨by rcases he with rfl | rfl <;> trivial, by rw [hr]; simp [resV, resL], h1, h2⟩
theorem s_PutBack {fr : Nat → AV} {h : Nat → Blk} {nx id n m : Nat} {pre ws post : List Nat} {ex gr : Bool} (b : Nat) (hb : h id = ⟨2, natA .i64 pre ++ (natA .i64 ws ++ [.int .i64 (-1)]) ++ natA .i64 post, ex, gr, true⟩) (hn : pre.length + (n + 3) + post.length = m)
    (hd : ∀ d ∈ ws, d < B9) (hl : (enc B9 b).length = n + 2) (hwl : ws.length = n + 2) (hlen : m ≤ 1099511627777) (hge : B9 ^ (n + 2) ≤ val B9 ws + b) :
    InOk Tryz.prog ⟨fr, h, nx⟩ 112 [.ref id m 0 m, natS b, .int .i64 pre.length] (.tup [])
      ⟨fr, upd h id ⟨2, natA .i64 (pre ++ padL B9 (n + 3) (val B9 ws + b - B9 ^ (n + 2)) ++ post), ex, gr, true⟩, nx⟩ := by
  refine inOk_of_wpc (W := fun _ => false) hm' Tryz.func112 rfl (by kernel_rfl) (Nat.le_of_ble_eq_true rfl) (go_start ?_)
  generalize hQ : PostIn Tryz.prog Tryz.f112 _ _ _ = Q
  have hB : B9 = 1000000000 := rfl
  have hupd : ∀ z w : Blk, upd (upd h id z) id w = upd h id w := by intro z w; funext j; simp only [upd_app]; split <;> rfl
  have hbN : b < B9 ^ (n + 2) := by rw [← hl]; exact enc_len_pow B9_gt
  have hwN : val B9 ws < B9 ^ (n + 2) := by rw [← hwl]; exact val_lt hd
  have bl : ∀ (ds : List Nat) (v : AV), ds.length = n + 2 → (natA .i64 pre ++ (natA .i64 ds ++ [v]) ++ natA .i64 post).length = m := by intro ds v h; simp [natA_length]; omega
  have bg : ∀ (ds : List Nat) (v : AV) (i : Nat), ds.length = n + 2 → i < n + 2 → (natA .i64 pre ++ (natA .i64 ds ++ [v]) ++ natA .i64 post)[pre.length + i]? = (ds[i]?).map fun n : Nat => AV.int .i64 n := by
    intro ds v i h hi
    have := mid_get (pre := natA .i64 pre) (ds := natA .i64 ds ++ [v]) (post := natA .i64 post) (i := i) (by simp [natA_length]; omega)
    rw [natA_length] at this
    rw [this, List.getElem?_append_left (by rw [natA_length]; omega), natA_at]
  have bs : ∀ (ds : List Nat) (v : AV) (i e : Nat), ds.length = n + 2 → i < n + 2 → (natA .i64 pre ++ (natA .i64 ds ++ [v]) ++ natA .i64 post).set (pre.length + i) (.int .i64 e) = natA .i64 pre ++ (natA .i64 (ds.set i e) ++ [v]) ++ natA .i64 post := by
    intro ds v i e h hi
    have := mid_set (pre := natA .i64 pre) (ds := natA .i64 ds ++ [v]) (post := natA .i64 post) (i := i) (e := AV.int .i64 (e : Int)) (by simp [natA_length]; omega)
    rw [natA_length] at this
    rw [this, List.set_append_left _ _ (by rw [natA_length]; omega), natA_put]
  have bt : ∀ (ds : List Nat) (v : AV), ds.length = n + 2 → (natA .i64 pre ++ (natA .i64 ds ++ [v]) ++ natA .i64 post)[pre.length + (n + 2)]? = some v := by
    intro ds v h
    have := mid_get (pre := natA .i64 pre) (ds := natA .i64 ds ++ [v]) (post := natA .i64 post) (i := n + 2) (by simp [natA_length]; omega)
    rw [natA_length] at this
    rw [this, List.getElem?_append_right (by rw [natA_length]; omega), natA_length, h, Nat.sub_self]; rfl
  have bz : ∀ (ds : List Nat) (v w : AV), ds.length = n + 2 → (natA .i64 pre ++ (natA .i64 ds ++ [v]) ++ natA .i64 post).set (pre.length + (n + 2)) w = natA .i64 pre ++ (natA .i64 ds ++ [w]) ++ natA .i64 post := by
    intro ds v w h
    have := mid_set (pre := natA .i64 pre) (ds := natA .i64 ds ++ [v]) (post := natA .i64 post) (i := n + 2) (e := w) (by simp [natA_length]; omega)
    rw [natA_length] at this
    rw [this, List.set_append_right _ _ (by rw [natA_length]; omega), natA_length, h, Nat.sub_self]; rfl
  simp (disch := omega) only [go_sem, ↓k_cond, ↓x_idx, ↓k_block, Nat.reduceEqDiff, Nat.reduceBEq, ↓reduceIte, reduceCtorEq, hl, natS]
  refine k_loop (fun (p : Nat × Nat × List Nat) st => st.fr 0 = .ref id m 0 m ∧ st.fr 1 = natS b ∧ st.fr 2 = .int .i64 pre.length ∧ st.fr 6 = .int .i64 p.2.1 ∧ st.fr 10 = natS b ∧ st.fr 11 = .int .i64 ((n + 2 : Nat) : Int) ∧ st.fr 12 = .int .i64 p.1 ∧
      st.h = upd h id ⟨2, natA .i64 pre ++ (natA .i64 p.2.2 ++ [.int .i64 (-1)]) ++ natA .i64 post, ex, gr, true⟩ ∧ st.nx = nx ∧ p.2.2.length = n + 2 ∧ p.1 ≤ n + 2 ∧ p.2.1 ≤ 1 ∧ (∀ q ∈ p.2.2, q < B9) ∧ p.2.2.drop p.1 = ws.drop p.1 ∧
      val B9 (p.2.2.take p.1) + B9 ^ p.1 * p.2.1 = val B9 (ws.take p.1) + val B9 ((enc B9 b).take p.1)) (fun p => n + 2 - p.1) (0, 0, ws)
    ⟨(by simp [upd_app] <;> omega), (by simp [upd_app, natS] <;> omega), (by simp [upd_app] <;> omega), (by simp [upd_app] <;> omega), (by simp [upd_app, natS] <;> omega), (by simp [upd_app] <;> omega), (by simp [upd_app] <;> omega), by funext j; simp only [upd_app]; split <;> simp_all, rfl, hwl, by simp, by simp, hd, rfl, by simp [val]⟩ ?_
  rintro ⟨i, c, ds⟩ ⟨fr1, h1, nx1⟩ ⟨h0, k1, h2, h6, h10, h11, h12, eh, enx, hdl, hi, hc, hq, hdr, hv⟩ J hJ
  simp only [natS] at h0 k1 h2 h6 h10 h11 h12 eh enx hdl hi hc hq hdr hv
  subst eh enx
  have hal := bl ds (.int .i64 (-1)) hdl
  by_cases hin : i < n + 2
  · obtain ⟨x, hx⟩ := get_some (xs := ds) (i := i) (by omega)
    have hxw : ws[i]? = some x := by
      have := congrArg (·[0]?) hdr
      simp only [List.getElem?_drop, Nat.add_zero] at this; rw [← this]; exact hx
    have hxB := hq x (List.mem_of_getElem? hx)
    have hrd := bg ds (.int .i64 (-1)) i hdl hin
    have hwr := fun e => bs ds (.int .i64 (-1)) i e hdl hin
    obtain ⟨y, hy⟩ := get_some (xs := enc B9 b) (i := i) (by omega)
    have hyB := enc_lt B9_gt b y (List.mem_of_getElem? hy)
    have hvy := val_take_succ (B := B9) hy
    obtain ⟨s1, s2, _⟩ := add_step B9_gt hc hxB hyB
    have key : ∀ (st : St), st.fr 0 = .ref id m 0 m → st.fr 1 = natS b → st.fr 2 = .int .i64 pre.length → st.fr 6 = .int .i64 ((x + y + c) / 1000000000 : Nat) → st.fr 10 = natS b → st.fr 11 = .int .i64 ((n + 2 : Nat) : Int) → st.fr 12 = .int .i64 ((i + 1 : Nat) : Int) →
        st.h = upd h id ⟨2, natA .i64 pre ++ (natA .i64 (ds.set i ((x + y + c) % 1000000000)) ++ [.int .i64 (-1)]) ++ natA .i64 post, ex, gr, true⟩ → st.nx = nx1 → J st := by
      intro st r0 r1 r2 r6 r10 r11 r12 rh rn
      have e : x + y + c = c + x + y := by omega
      rw [e] at r6 rh
      refine hJ (i + 1, (c + x + y) / B9, ds.set i ((c + x + y) % B9)) st ⟨r0, r1, r2, r6, r10, r11, r12, rh, rn, by simp [hdl], hin, s1, set_lt hq s2, drop_set_succ hdr, ?_⟩ (by simp only; omega)
      simp only
      rw [val_take_set (by omega), hvy, val_take_succ hxw]
      exact back_inv hv
    clear hJ hv hvy hdr hd hxw hq hbN hwN hge hQ s1 s2 bl bg bs bt bz
    rw [hB] at hxB hyB
    simp (disch := omega) only [go_sem, ↓k_cond, ↓x_idx, ↓k_block, Nat.reduceEqDiff, Nat.reduceBEq, ↓reduceIte, reduceCtorEq, h0, k1, h2, h6, h10, h11, h12, hal, hrd, hx, hy, hwr, hupd]
    exact key _ (by simp [upd_app, h0] <;> omega) (by simp [upd_app, k1, natS] <;> omega) (by simp [upd_app, h2] <;> omega) (by simp [upd_app] <;> omega) (by simp [upd_app, h10, natS] <;> omega) (by simp [upd_app, h11] <;> omega) (by simp [upd_app] <;> omega) rfl rfl
  · obtain rfl : i = n + 2 := by omega
    have e1 : (enc B9 b).take (n + 2) = enc B9 b := List.take_of_length_le (by omega)
    have e2 : ds.take (n + 2) = ds := List.take_of_length_le (by omega)
    have e3 : ws.take (n + 2) = ws := List.take_of_length_le (by omega)
    rw [e1, e2, e3, val_enc B9_gt] at hv
    have hdN : val B9 ds < B9 ^ (n + 2) := by rw [← hdl]; exact val_lt hq
    have hc1 : c = 1 := put_c hv hdN hge hc
    subst hc1
    have hget := bt ds (.int .i64 (-1)) hdl
    have hset := fun w => bz ds (.int .i64 (-1)) w hdl
    have w1 : (-1 : Int) + ((1 : Nat) : Int) = 0 := by omega
    have hfin : natA .i64 pre ++ (natA .i64 ds ++ [AV.int .i64 0]) ++ natA .i64 post = natA .i64 (pre ++ padL B9 (n + 3) (val B9 ws + b - B9 ^ (n + 2)) ++ post) := by
      have : padL B9 (n + 3) (val B9 ws + b - B9 ^ (n + 2)) = ds ++ [0] := by
        refine (pad_of B9_gt (fun q hq' => ?_) (by simp [hdl]) (by rw [val_append]; simp only [val, Nat.mul_zero, Nat.add_zero]; exact put_v hv)).symm
        rcases List.mem_append.1 hq' with h' | h'
        · exact hq q h'
        · simp at h'; rw [h', hB]; omega
      rw [this]; simp [natA]
    clear hJ hv hdr hd hq hbN hwN hge bl bg bs bt bz hdN
    have hl2 := hl
    simp (disch := omega) only [go_sem, ↓k_cond, ↓x_idx, ↓k_block, Nat.reduceEqDiff, Nat.reduceBEq, ↓reduceIte, reduceCtorEq, h0, k1, h2, h6, h10, h11, h12, hal, hget, hset, hl2, natA_length, w1, hupd]
    rw [← hQ]
    exact postIn_none (.inr rfl) rfl (by rw [hfin]) rfl
section
theorem split3 {α : Type} (us : List α) (j n : Nat) : us = us.take j ++ (us.drop j).take n ++ us.drop (j + n) := by
 conv => lhs; rw [← List.take_append_drop j us, ← List.take_append_drop n (us.drop j), List.drop_drop]
 rw [List.append_assoc]
structure Nrm (B n V : Nat) : Prop where
 B0 : 1 < B
 len : (enc B V).length = n + 2
 half : ∀ t, (enc B V)[n + 1]? = some t → B ≤ 2 * t
theorem Nrm.pos {B n V : Nat} (h : Nrm B n V) : 0 < V := by
  rcases Nat.eq_zero_or_pos V with rfl | hp
  · have := h.len; rw [enc_zero] at this; simp at this
  · exact hp
theorem Nrm.lt {B n V : Nat} (h : Nrm B n V) : V < B ^ (n + 2) := by rw [← h.len]; exact enc_len_pow h.B0
structure Kn (B V U M n i : Nat) (us qs : List Nat) : Prop where
 lt : ∀ d ∈ us, d < B
 len : us.length = M + (n + 2)
 iM : i ≤ M
 qlt : ∀ d ∈ qs, d < B
 qlen : i + qs.length = M
 top : val B us / B ^ i < V
 sum : val B us + V * B ^ i * val B qs = U
section
variable {B V U M n j : Nat} {us qs : List Nat}
theorem Kn.win (h : Kn B V U M n (j + 1) us qs) (hN : Nrm B n V) : ((us.drop j).take (n + 3)).length = n + 3 ∧ (∀ d ∈ (us.drop j).take (n + 3), d < B) ∧ val B ((us.drop j).take (n + 3)) < V * B ∧ val B (us.drop (j + (n + 3))) = 0 ∧ val B ((us.drop j).take (n + 3)) = val B us / B ^ j := by
 have hB := hN.B0
 have hl := h.len; have hi := h.iM
 have hp : 0 < B ^ j := Nat.pow_pos (by omega)
 have h1 : val B us / B ^ j < V * B := by
  have := h.top
  rw [Nat.pow_succ, ← Nat.div_div_eq_div_mul] at this
  exact (Nat.div_lt_iff_lt_mul (by omega)).1 this
 have hV := hN.lt
 have h2 : V * B ≤ B ^ (n + 3) := by rw [show n + 3 = n + 2 + 1 by omega, Nat.pow_succ B]; exact Nat.mul_le_mul_right _ (Nat.le_of_lt hV)
 have h3 : val B ((us.drop j).take (n + 3)) = val B us / B ^ j := by
  rw [val_take hB (fun d hd => h.lt d (List.mem_of_mem_drop hd)), val_drop hB h.lt, Nat.mod_eq_of_lt (by omega)]
 refine ⟨by simp; omega, fun d hd => h.lt d (List.mem_of_mem_drop (List.mem_of_mem_take hd)), by rw [h3]; exact h1, ?_, h3⟩
 rw [val_drop hB h.lt, Nat.pow_add, ← Nat.div_div_eq_div_mul]
 exact Nat.div_eq_of_lt (by omega)
theorem Kn.digs (h : Kn B V U M n (j + 1) us qs) (hN : Nrm B n V) : ∃ top next u1 u2 u3, (enc B V)[n + 1]? = some top ∧ (enc B V)[n]? = some next ∧ us[j + (n + 2)]? = some u1 ∧ us[j + (n + 1)]? = some u2 ∧ us[j + n]? = some u3 ∧
  top < B ∧ next < B ∧ u1 < B ∧ u2 < B ∧ u3 < B ∧ Digs B (B ^ n) V (val B ((us.drop j).take (n + 3))) top next (u1 * B + u2) u3 := by
 have hl := h.len; have hi := h.iM; have hVl := hN.len
 obtain ⟨top, ht⟩ := get_some (xs := enc B V) (i := n + 1) (by omega)
 obtain ⟨next, hn⟩ := get_some (xs := enc B V) (i := n) (by omega)
 obtain ⟨u1, h1⟩ := get_some (xs := us) (i := j + (n + 2)) (by omega)
 obtain ⟨u2, h2⟩ := get_some (xs := us) (i := j + (n + 1)) (by omega)
 obtain ⟨u3, h3⟩ := get_some (xs := us) (i := j + n) (by omega)
 obtain ⟨w1, w2, w3, w4, w5⟩ := h.win hN
 have e := fun k (hk : k < n + 3) => show ((us.drop j).take (n + 3))[k]? = us[j + k]? by rw [List.getElem?_take, if_pos hk, List.getElem?_drop]
 exact ⟨top, next, u1, u2, u3, ht, hn, h1, h2, h3, enc_lt hN.B0 V _ (List.mem_of_getElem? ht), enc_lt hN.B0 V _ (List.mem_of_getElem? hn), h.lt _ (List.mem_of_getElem? h1), h.lt _ (List.mem_of_getElem? h2), h.lt _ (List.mem_of_getElem? h3),
  digs_of hN.B0 (enc_lt hN.B0 V) w2 hN.len w1 (val_enc hN.B0 V) rfl ht hn ((e _ (by omega)).trans h1) ((e _ (by omega)).trans h2) ((e _ (by omega)).trans h3) w3 (hN.half _ ht)⟩
theorem Kn.step (h : Kn B V U M n (j + 1) us qs) (hN : Nrm B n V) {q r : Nat} (hq : q = val B ((us.drop j).take (n + 3)) / V) (hr : r = val B ((us.drop j).take (n + 3)) % V) :
    Kn B V U M n j (us.take j ++ padL B (n + 3) r ++ us.drop (j + (n + 3))) (q :: qs) := by
  obtain ⟨w1, w2, w3, w4, w5⟩ := h.win hN
  have hB := hN.B0; have hl := h.len; have hi := h.iM
  have hV := hN.lt; have hV0 := hN.pos
  have hp : 0 < B ^ j := Nat.pow_pos (by omega)
  have hrV : r < V := hr ▸ Nat.mod_lt _ hV0
  have hrB : r < B ^ (n + 3) := by
    have : B ^ (n + 2) ≤ B ^ (n + 3) := Nat.pow_le_pow_right (by omega) (by omega)
    omega
  have hpl := pad_len hB hrB
  have hlj : (us.take j).length = j := by simp; omega
  have e1 : val B (us.take j ++ padL B (n + 3) r ++ us.drop (j + (n + 3))) = val B (us.take j) + B ^ j * r := by
    rw [val_append, val_append, w4, pad_val hB, hlj]; simp
  have e2 : val B us = val B (us.take j) + B ^ j * val B ((us.drop j).take (n + 3)) := by
    conv => lhs; rw [split3 us j (n + 3), val_append, val_append, w4, hlj]
    simp
  have e3 := Nat.div_add_mod (val B ((us.drop j).take (n + 3))) V
  rw [← hq, ← hr] at e3
  have htl : val B (us.take j) < B ^ j := by
    have := val_lt (B := B) (xs := us.take j) (fun d hd => h.lt d (List.mem_of_mem_take hd)); rwa [hlj] at this
  refine ⟨?_, by simp [hpl]; omega, by omega, ?_, by have := h.qlen; simp; omega, ?_, ?_⟩
  · intro d hd
    rcases List.mem_append.1 hd with hd | hd
    · rcases List.mem_append.1 hd with hd | hd
      · exact h.lt d (List.mem_of_mem_take hd)
      · exact pad_lt hB d hd
    · exact h.lt d (List.mem_of_mem_drop hd)
  · intro d hd
    rcases List.mem_cons.1 hd with rfl | hd
    · rw [hq, Nat.div_lt_iff_lt_mul hV0, Nat.mul_comm]; exact w3
    · exact h.qlt d hd
  · rw [e1, Nat.add_mul_div_left _ _ hp, Nat.div_eq_of_lt htl, Nat.zero_add]; exact hrV
  · have hs := h.sum
    rw [e2, ← e3] at hs
    rw [e1, val, ← hs, Nat.pow_succ]
    simp only [Nat.mul_add]
    have f1 : B ^ j * (V * q) = V * B ^ j * q := by rw [← Nat.mul_assoc, Nat.mul_comm (B ^ j) V]
    have f2 : V * (B ^ j * B) * val B qs = V * B ^ j * (B * val B qs) := by rw [← Nat.mul_assoc V, Nat.mul_assoc]
    rw [f1, f2]; omega
theorem Kn.done (h : Kn B V U M n 0 us qs) (hN : Nrm B n V) : val B qs = U / V ∧ val B us = U % V := by
 have h1 := h.top; have h2 := h.sum
 simp only [Nat.pow_zero, Nat.div_one, Nat.mul_one] at h1 h2
 have hV0 := hN.pos
 rw [← h2]
 exact ⟨by rw [Nat.add_mul_div_left _ _ hV0, Nat.div_eq_of_lt h1, Nat.zero_add], by rw [Nat.add_mul_mod_self_left, Nat.mod_eq_of_lt h1]⟩
theorem Kn.start {a b m : Nat} (hN : Nrm B n (b * m)) (hb : (enc B b).length = n + 2) (hm : 0 < m) (hla : n + 2 ≤ (enc B a).length) (hM : M = (enc B a).length + 1 - (n + 2)) (hmB : m ≤ B) :
  Kn B (b * m) (a * m) M n M (padL B ((enc B a).length + 1) (a * m)) [] := by
 have hB := hN.B0
 have hlt : a * m < B ^ ((enc B a).length + 1) := by
  rw [Nat.pow_succ]; exact Nat.lt_of_lt_of_le (Nat.mul_lt_mul_of_pos_right (enc_len_pow hB) hm) (Nat.mul_le_mul_left _ hmB)
 refine ⟨pad_lt hB, by rw [pad_len hB hlt]; omega, Nat.le_refl _, by simp, by simp, ?_, by simp [pad_val hB, val]⟩
 rw [pad_val hB]
 have hb0 : b ≠ 0 := by rintro rfl; simp [enc_zero] at hb
 have h1 := enc_ge_pow hB hb0
 rw [hb, show n + 2 - 1 = n + 1 by omega] at h1
 have h2 := enc_len_pow hB (n := a)
 have e : (enc B a).length = M + (n + 1) := by omega
 rw [e, Nat.pow_add] at h2
 rw [Nat.div_lt_iff_lt_mul (Nat.pow_pos (by omega))]
 have h3 : a * m < B ^ M * B ^ (n + 1) * m := Nat.mul_lt_mul_of_pos_right h2 hm
 have h4 : B ^ M * B ^ (n + 1) * m ≤ B ^ M * b * m := Nat.mul_le_mul_right _ (Nat.mul_le_mul_left _ h1)
 have h5 : B ^ M * b * m = b * m * B ^ M := by rw [Nat.mul_assoc, Nat.mul_comm]
 omega
end
theorem nrm_of {B n b m t : Nat} (hB : 1 < B) (hl : (enc B b).length = n + 2) (ht : (enc B b)[n + 1]? = some t) (h1 : (t + 1) * m ≤ B) (h2 : B ≤ 2 * (t * m)) : Nrm B n (b * m) := by
  have h3 := val_split B (enc B b) (n + 1)
  have hlt : ((enc B b).take (n + 1)).length = n + 1 := by simp; omega
  rw [hlt, drop_cons ht, List.drop_eq_nil_of_le (by omega), val_enc hB] at h3
  simp only [val, Nat.mul_zero, Nat.add_zero] at h3
  have h4 : val B ((enc B b).take (n + 1)) < B ^ (n + 1) := by
    have := val_lt (B := B) (xs := (enc B b).take (n + 1)) (fun d hd => enc_lt hB b d (List.mem_of_mem_take hd)); rwa [hlt] at this
  have hm : 0 < m := by rcases Nat.eq_zero_or_pos m with rfl | h; · simp at h2; omega
                        · exact h
  have hp : 0 < B ^ (n + 1) := Nat.pow_pos (by omega)
  -- below and above
  have h5 : B ^ (n + 1) * (t * m) ≤ b * m := by
    have : B ^ (n + 1) * t * m ≤ b * m := Nat.mul_le_mul_right _ (by omega)
    rw [Nat.mul_assoc] at this; exact this
  have h6 : b * m < B ^ (n + 1) * B := by
    have h7 : b + 1 ≤ B ^ (n + 1) * (t + 1) := by rw [Nat.mul_add, Nat.mul_one]; omega
    have h8 : b * m < B ^ (n + 1) * (t + 1) * m := Nat.mul_lt_mul_of_pos_right h7 hm
    have h9 : B ^ (n + 1) * (t + 1) * m ≤ B ^ (n + 1) * B := by rw [Nat.mul_assoc]; exact Nat.mul_le_mul_left _ h1
    omega
  have hlen : (enc B (b * m)).length = n + 2 := by
    have a1 := enc_len_le hB (show b * m < B ^ (n + 2) by rw [show n + 2 = n + 1 + 1 by omega, Nat.pow_succ]; exact h6)
    have htm : 1 ≤ t * m := by omega
    have a2 := enc_len_ge hB (show B ^ (n + 1) ≤ b * m from Nat.le_trans (by have := Nat.mul_le_mul_left (B ^ (n + 1)) htm; simpa using this) h5)
    omega
  refine ⟨hB, hlen, fun u hu => ?_⟩
  have h7 := dig_at hB (enc_lt hB (b * m)) hu
  rw [val_enc hB, Nat.mod_eq_of_lt (by rw [Nat.div_lt_iff_lt_mul hp, Nat.mul_comm B]; exact h6)] at h7
  have h8 : t * m ≤ b * m / B ^ (n + 1) := by rw [Nat.le_div_iff_mul_le hp, Nat.mul_comm (t * m)]; exact h5
  omega
theorem quot_scale {a b m : Nat} (hm : 0 < m) : a * m / (b * m) = a / b ∧ a * m % (b * m) = a % b * m := ⟨Nat.mul_div_mul_right _ _ hm, Nat.mul_mod_mul_right ..⟩
end
theorem i_TrimIn {fr : Nat → AV} {h : Nat → Blk} {nx id n : Nat} {xs : List Nat} (hlv : (h id).lv = true) (hn : (h id).xs.length = n) (ht : (h id).t = 128) (hlen : n < 9223372036854775808)
    (hl : xs.length ≤ n) (hxs : (h id).xs.take xs.length = natA .u32 xs) : InOk Tryz.prog ⟨fr, h, nx⟩ 95 [.ref id n 0 xs.length] (.ref id n 0 (trimZ xs).length) ⟨fr, h, nx⟩ := by
  refine inOk_of_wpc (W := fun _ => false) hm' Tryz.func95 rfl (by kernel_rfl) (Nat.le_of_ble_eq_true rfl) (go_start ?_)
  generalize hQ : PostIn Tryz.prog Tryz.f95 _ _ _ = Q
  simp (disch := omega) only [go_sem, ↓k_cond, ↓x_idx, ↓k_block, Nat.reduceEqDiff, Nat.reduceBEq, ↓reduceIte, reduceCtorEq, List.getD_cons_zero, List.getD_cons_succ]
  refine k_loop (fun (ys : List Nat) st => st.fr 0 = .ref id n 0 ys.length ∧ st.h = h ∧ st.nx = nx ∧ ys.length ≤ n ∧ (h id).xs.take ys.length = natA .u32 ys ∧ trimZ ys = trimZ xs) (fun ys => ys.length) xs ⟨rfl, rfl, rfl, hl, hxs, rfl⟩ ?_
  rintro ys ⟨fr, h1, nx1⟩ ⟨h0, e1, e2, h3, h4, h5⟩ J hJ
  simp only at h0 e1 e2
  subst e1 e2
  rcases List.eq_nil_or_concat ys with rfl | ⟨zs, z, rfl⟩
  · simp (disch := omega) only [go_sem, ↓k_cond, ↓x_idx, ↓k_block, Nat.reduceEqDiff, Nat.reduceBEq, ↓reduceIte, reduceCtorEq, h0, hlv, hn]
    rw [← hQ]
    exact postIn_one (.inl rfl) rfl (by simp [upd_app, ← h5]; rfl) rfl rfl
  · rw [List.concat_eq_append] at *
    have hl : (zs ++ [z]).length = zs.length + 1 := by simp
    rw [hl] at h0 h3 h4
    have hg : (h1 id).xs[zs.length]? = some (.int .u32 z) := by
      have := congrArg (·[zs.length]?) h4
      simp only [List.getElem?_take] at this
      rw [if_pos (by omega)] at this
      rw [this]; exact natA_get (by simp)
    have h4' : (h1 id).xs.take zs.length = natA .u32 zs := by
      have := congrArg (List.take zs.length) h4
      rw [List.take_take, Nat.min_eq_left (by omega), natA_take] at this
      simpa using this
    by_cases hz : z = 0
    · simp (disch := omega) only [go_sem, ↓k_cond, ↓x_idx, ↓k_block, Nat.reduceEqDiff, Nat.reduceBEq, ↓reduceIte, reduceCtorEq, h0, hg, hlv, hn, ht]
      refine hJ zs _ ⟨?_, rfl, rfl, by omega, h4', by rw [← h5, hz, trimZ_zero]⟩ (by simp)
      simp [upd_app]
    · simp (disch := omega) only [go_sem, ↓k_cond, ↓x_idx, ↓k_block, Nat.reduceEqDiff, Nat.reduceBEq, ↓reduceIte, reduceCtorEq, h0, hg, hlv, hn, ht]
      rw [← hQ]
      exact postIn_one (.inl rfl) rfl (by simp [upd_app, ← h5, trimZ_pos _ hz]) rfl rfl

theorem ci_div : callable Tryz.prog 96 = true := by kernel_rfl
theorem shr_dig {X S T B : Nat} (hB : B = S * T) (hS : 0 < S) (hT : 0 < T) : X % (B * B) / S % B = X / S % B := by
 have h1 := Nat.div_add_mod X (B * B)
 have h2 : X / S = B * (T * (X / (B * B))) + X % (B * B) / S := by
  have e : X = S * (B * (T * (X / (B * B)))) + X % (B * B) := by
   have : S * (B * (T * (X / (B * B)))) = B * B * (X / (B * B)) := by
    rw [Nat.mul_left_comm S B, ← Nat.mul_assoc S T, ← hB, Nat.mul_assoc]
   omega
  conv => lhs; rw [e]
  rw [Nat.mul_add_div hS]
 rw [h2, Nat.mul_add_mod]
theorem two_digs {B : Nat} (hB : 1 < B) {xs : List Nat} (h : ∀ d ∈ xs, d < B) {i x : Nat} (hx : xs[i]? = some x) : xs.getD (i + 1) 0 * B + x = val B xs / B ^ i % (B * B) := by
  have h1 := dig_at hB h hx
  have h2 : xs.getD (i + 1) 0 = val B xs / B ^ i / B % B := by
    rw [Nat.div_div_eq_div_mul, ← Nat.pow_succ]
    by_cases hi : i + 1 < xs.length
    · exact dig_at hB h (getD_some hi)
    · rw [getD_none hi, Nat.div_eq_of_lt, Nat.zero_mod]
      exact Nat.lt_of_lt_of_le (val_lt h) (Nat.pow_le_pow_right (by omega) (by omega))
  rw [Nat.mod_mul, h2, h1, Nat.mul_comm B, Nat.add_comm]
theorem shr_at {B S T V i x L : Nat} (hB : 1 < B) (hST : B = S * T) (hS : 0 < S) (hT : 0 < T) (hL : V < B ^ L) (hx : (enc B V)[i]? = some x) (hi : i < L) : (padL B L (V / S))[i]? = some (((enc B V).getD (i + 1) 0 * B + x) / S % B) := by
 have hlt : V / S < B ^ L := Nat.lt_of_le_of_lt (Nat.div_le_self _ _) hL
 obtain ⟨y, hy⟩ := get_some (xs := padL B L (V / S)) (i := i) (by rw [pad_len hB hlt]; exact hi)
 rw [hy, dig_at hB (pad_lt hB) hy, pad_val hB, two_digs hB (enc_lt hB V) hx, val_enc hB, shr_dig hST hS hT, Nat.div_div_eq_div_mul, Nat.div_div_eq_div_mul, Nat.mul_comm S]
theorem take_drop_set {α : Type} {R T : List α} {i : Nat} {v : α} (hT : T[i]? = some v) (hl : i < R.length) : (T.take i ++ R.drop i).set i v = T.take (i + 1) ++ R.drop (i + 1) := by
 have hlt := (List.getElem?_eq_some_iff.1 hT).1
 have h1 : (T.take i).length = i := by simp; omega
 rw [List.set_append_right _ _ (by omega), h1, Nat.sub_self, List.drop_eq_getElem_cons hl, List.set_cons_zero, List.take_add_one, hT]
 simp

set_option maxHeartbeats 1000000 in
theorem i_div (a b : Nat) (ha : (enc B32 a).length ≤ 1099511627775) (hb0 : b ≠ 0) (hb : (enc B32 b).length ≤ 1099511627775) : CallOk Tryz.prog 96 [natI a, natI b] (.tup [natI (a / b), natI (a % b)]) [] := by
  by_cases hab : a < b
  · have e1 : a / b = 0 := Nat.div_eq_of_lt hab
    have e2 : a % b = a := Nat.mod_eq_of_lt hab
    rw [e1, e2]
    refine CallOk.res (r := .tup [.nil, natI a]) ?_ (sub_tup (SubL.cons (by unfold natI; rw [enc_zero]; exact sub_nil) (SubL.refl _)))
    (refine callOk_of_wpc (W := fun g => g == 95 || g == 106 || g == 107) false hm' Tryz.func96 rfl (by kernel_rfl) (Nat.le_of_ble_eq_true rfl) (go_start ?_); generalize hQ : Post Tryz.prog Tryz.f96 _ _ _ _ _ = Q; simp only [stIn, matL, matA, st00, natI])
    simp (disch := omega) only [go_sem, ↓k_cond, ↓x_idx, ↓k_block, Nat.reduceEqDiff, Nat.reduceBEq, ↓reduceIte, reduceCtorEq]
    refine x_callP (i_Cmp a b (by omega) (by omega)) ci_cmp (by simp [evA, upd_app, ofVal, ofCell, natI]) (by simp [AV.pure, AV.pureL, natA_pure, natI_pure, natS_pure]) (by simp [AV.pure, AV.pureL, natA_pure, natI_pure, natS_pure]) ?_
    have hc := cmpI_lt hab
    simp (disch := omega) only [go_sem, ↓k_cond, ↓x_idx, ↓k_block, Nat.reduceEqDiff, Nat.reduceBEq, ↓reduceIte, reduceCtorEq, hc]
    rw [← hQ]
    exact post_two (.inl rfl) rfl (by simp [upd_app] <;> omega) (by simp [upd_app, natI] <;> omega) rfl (by simp)
  by_cases hb1 : (enc B32 b).length = 1
  · obtain ⟨d, hd⟩ := get_some (xs := enc B32 b) (i := 0) (by omega)
    have hdB := enc_lt B32_gt b d (List.mem_of_getElem? hd)
    have hbd : b = d := by
      have h1 := drop_cons hd
      rw [List.drop_zero, List.drop_eq_nil_of_le (by omega)] at h1
      have := val_enc B32_gt b
      rw [h1] at this; simpa [val] using this.symm
    have hd0 : 0 < d := by omega
    (refine callOk_of_wpc (W := fun g => g == 95 || g == 106 || g == 107) false hm' Tryz.func96 rfl (by kernel_rfl) (Nat.le_of_ble_eq_true rfl) (go_start ?_); generalize hQ : Post Tryz.prog Tryz.f96 _ _ _ _ _ = Q; simp only [stIn, matL, matA, st00, natI])
    simp (disch := omega) only [go_sem, ↓k_cond, ↓x_idx, ↓k_block, Nat.reduceEqDiff, Nat.reduceBEq, ↓reduceIte, reduceCtorEq]
    refine x_callP (i_Cmp a b (by omega) (by omega)) ci_cmp (by simp [evA, upd_app, ofVal, ofCell, natI]) (by simp [AV.pure, AV.pureL, natA_pure, natI_pure, natS_pure]) (by simp [AV.pure, AV.pureL, natA_pure, natI_pure, natS_pure]) ?_
    have hc : ¬ cmpI a b < 0 := by simp only [cmpI]; rw [if_neg hab]; split <;> omega
    have hn0 : (enc B32 b)[Int.toNat 0]? = some d := hd
    simp (disch := omega) only [go_sem, ↓k_cond, ↓x_idx, ↓k_block, Nat.reduceEqDiff, Nat.reduceBEq, ↓reduceIte, reduceCtorEq, hb1, hn0]
    have hB : B32 = 4294967296 := rfl
    refine x_callP (i_divSmall a d (by omega) hd0 (by rw [← hB]; exact hdB)) ci_divSmall (by simp [evA, upd_app, ofVal, ofCell, natI]) (by simp [AV.pure, AV.pureL, natA_pure, natI_pure, natS_pure]) (by simp [AV.pure, AV.pureL, natA_pure, natI_pure, natS_pure]) ?_
    simp (disch := omega) only [go_sem, ↓k_cond, ↓x_idx, ↓k_block, Nat.reduceEqDiff, Nat.reduceBEq, ↓reduceIte, reduceCtorEq]
    have e1 : [AV.int .u32 ((a % d : Nat) : Int)] = natA .u32 [a % d] := rfl
    rw [e1]
    refine x_callP (i_TrimE [a % d] true (by simp)) ci_trim (by simp [evA, upd_app, ofVal, ofCell]) (by simp [AV.pure, AV.pureL, natA_pure, natI_pure, natS_pure]) (by simp [AV.pure, AV.pureL, natA_pure, natI_pure, natS_pure]) ?_
    simp (disch := omega) only [go_sem, ↓k_cond, ↓x_idx, ↓k_block, Nat.reduceEqDiff, Nat.reduceBEq, ↓reduceIte, reduceCtorEq]
    have e2 : trimZ [a % d] = enc B32 (a % d) := by
      rw [trimZ_enc B32_gt (by intro q hq; simp at hq; rw [hq]; exact Nat.lt_trans (Nat.mod_lt _ hd0) hdB)]; simp [val]
    rw [e2, ← hQ]
    exact post_two (.inl rfl) rfl (by simp [upd_app, natI, hbd] <;> omega) (by simp [upd_app, natI, hbd] <;> omega) (by simp) (by simp)
  obtain ⟨n, hn⟩ : ∃ n, (enc B32 b).length = n + 2 := ⟨(enc B32 b).length - 2, by
    have : (enc B32 b).length ≠ 0 := fun h => hb0 ((enc_nil B32_gt).1 (List.length_eq_zero_iff.1 h))
    omega⟩
  obtain ⟨na, hna⟩ : ∃ na, (enc B32 a).length = na := ⟨_, rfl⟩
  have hB : B32 = 4294967296 := rfl
  have hla : n + 2 ≤ na := by
    rw [← hn, ← hna]
    rcases Nat.lt_or_ge (enc B32 a).length (enc B32 b).length with h | h
    · exact absurd (enc_len_lt B32_gt h) hab
    · exact h
  obtain ⟨tp, htp⟩ := get_some (xs := enc B32 b) (i := n + 1) (by omega)
  have htpB : tp < 4294967296 := enc_lt B32_gt b tp (List.mem_of_getElem? htp)
  have htp0 : tp ≠ 0 := enc_last B32_gt b tp (by rw [List.getLast?_eq_getElem?, hn]; exact htp)
  obtain ⟨m1, m2, m3⟩ := norm_top htpB htp0
  obtain ⟨s, hs⟩ : ∃ s, 32 - len2 tp = s := ⟨_, rfl⟩
  rw [hs] at m1 m2 m3
  obtain ⟨S, hS⟩ : ∃ S, 2 ^ s = S := ⟨_, rfl⟩
  have hS0 : 0 < S := hS ▸ Nat.pow_pos (by omega)
  obtain ⟨T, hST⟩ : ∃ T, B32 = S * T := ⟨2 ^ (32 - s), by rw [← hS, ← Nat.pow_add, show s + (32 - s) = 32 by omega]; rfl⟩
  have hT0 : 0 < T := by rcases Nat.eq_zero_or_pos T with rfl | h; · rw [Nat.mul_zero] at hST; cases hST
                         · exact h
  rw [hS] at m1 m2
  have m4 : (tp + 1) * S ≤ B32 := by
    rw [hST, Nat.mul_comm S T]
    refine Nat.mul_le_mul_right _ ?_
    have : tp * S < T * S := by rw [Nat.mul_comm T S, ← hST, hB]; exact m2
    exact Nat.lt_of_mul_lt_mul_right this
  have hSB : S ≤ B32 := by have := Nat.mul_le_mul_left S hT0; rw [hST]; omega
  have hN := nrm_of B32_gt hn htp m4 (by rw [hB]; omega)
  obtain ⟨V, hV⟩ : ∃ V, b * S = V := ⟨_, rfl⟩
  obtain ⟨U, hU⟩ : ∃ U, a * S = U := ⟨_, rfl⟩
  obtain ⟨M, hM⟩ : ∃ M, M = na + 1 - (n + 2) := ⟨_, rfl⟩
  have hK := Kn.start (a := a) (M := M) hN hn hS0 (by omega) (by omega) hSB
  rw [hV] at hN
  rw [hV, hU, hna] at hK
  have hsa : shiftL a s = padL B32 (na + 1) U := by rw [shiftL, hS, hU, hna, padL]
  have hsb : trimZ (shiftL b s) = enc B32 V := by
    have : shiftL b s = padL B32 (n + 3) V := by rw [shiftL, hS, hV, hn, padL]
    have hlt : V < B32 ^ (n + 3) := Nat.lt_trans hN.lt (Nat.pow_lt_pow_right B32_gt (by omega))
    rw [this, trimZ_enc B32_gt (pad_lt B32_gt), pad_val B32_gt]
  have hpl : (padL B32 (na + 1) U).length = na + 1 := by rw [hK.len]; omega
  have hsbl : (shiftL b s).length = n + 3 := by
    have := enc_len_le B32_gt (show b * 2 ^ s < B32 ^ (n + 3) from by rw [hS, hV]; exact Nat.lt_trans hN.lt (Nat.pow_lt_pow_right B32_gt (by omega)))
    simp [shiftL, hn]; omega
  obtain ⟨f1, f2⟩ := quot_scale (a := a) (b := b) hS0
  rw [hU, hV] at f1 f2
  have hVl := hN.len
  clear hsbl
  (refine callOk_of_wpc (W := fun g => g == 95 || g == 106 || g == 107) false hm' Tryz.func96 rfl (by kernel_rfl) (Nat.le_of_ble_eq_true rfl) (go_start ?_); generalize hQ : Post Tryz.prog Tryz.f96 _ _ _ _ _ = Q; simp only [stIn, matL, matA, st00, natI])
  simp (disch := omega) only [go_sem, ↓k_cond, ↓x_idx, ↓k_block, Nat.reduceEqDiff, Nat.reduceBEq, ↓reduceIte, reduceCtorEq]
  refine x_callP (i_Cmp a b (by omega) (by omega)) ci_cmp (by simp [evA, upd_app, ofVal, ofCell, natI]) (by simp [AV.pure, AV.pureL, natA_pure, natI_pure, natS_pure]) (by simp [AV.pure, AV.pureL, natA_pure, natI_pure, natS_pure]) ?_
  have hc : ¬ cmpI a b < 0 := by simp only [cmpI]; rw [if_neg hab]; split <;> omega
  have e1 : ((n + 2 : Nat) : Int) - 1 = ((n + 1 : Nat) : Int) := by omega
  simp (disch := omega) only [go_sem, ↓k_cond, ↓x_idx, ↓k_block, Nat.reduceEqDiff, Nat.reduceBEq, ↓reduceIte, reduceCtorEq, hb1, hn, e1, htp]
  refine x_callP (g_LeadingZeros32 tp htpB htp0) c_LeadingZeros32 (by simp [evA, upd_app]) (by simp [AV.pure, AV.pureL]) rfl ?_
  rw [hs]
  simp (disch := omega) only [go_sem, ↓k_cond, ↓x_idx, ↓k_block, Nat.reduceEqDiff, Nat.reduceBEq, ↓reduceIte, reduceCtorEq]
  refine x_callO (i_shifted a s (by omega) m3) ci_shifted (by simp [evA, upd_app, natI]) (by simp [AV.pure, AV.pureL, natA_pure, natI_pure, natS_pure]) (natA_pure _ _) rfl rfl ?_
  simp only [List.append_nil, List.length_nil, Nat.add_zero, natA_length, hsa, hpl]
  simp (disch := omega) only [go_sem, ↓k_cond, ↓x_idx, ↓k_block, Nat.reduceEqDiff, Nat.reduceBEq, ↓reduceIte, reduceCtorEq]
  refine x_callO (i_shifted b s (by omega) m3) ci_shifted (by simp [evA, upd_app, natI]) (by simp [AV.pure, AV.pureL, natA_pure, natI_pure, natS_pure]) (natA_pure _ _) rfl rfl ?_
  simp only [List.append_nil, List.length_nil, Nat.add_zero, natA_length]
  refine x_callF (i_Trim ((shiftL b s).take (shiftL b s).length) (by simp; have := enc_len_le B32_gt hN.lt; simp [shiftL, hS, hV, hn]; omega)) ci_trim (by simp [evA, upd_app]) (snapL_one (id := 1) (st := ⟨_, _, _⟩) (by simp [upd_app]) rfl (Nat.le_refl _)) (by simp [upd_app]) (by simp [AV.pure, AV.pureL, natA_pure, natI_pure, natS_pure]) (by simp [AV.pure, AV.pureL, natA_pure, natI_pure, natS_pure]) (by simp) ?_
  rw [List.take_length, hsb]
  obtain ⟨top, next, ht1, ht2⟩ : ∃ top next, (enc B32 V)[n + 1]? = some top ∧ (enc B32 V)[n]? = some next := by
    obtain ⟨x, hx⟩ := get_some (xs := enc B32 V) (i := n + 1) (by omega)
    obtain ⟨y, hy⟩ := get_some (xs := enc B32 V) (i := n) (by omega)
    exact ⟨x, y, hx, hy⟩
  have htB : top < B32 := enc_lt B32_gt V _ (List.mem_of_getElem? ht1)
  have hnB : next < B32 := enc_lt B32_gt V _ (List.mem_of_getElem? ht2)
  have hhalf := hN.half _ ht1
  have e2 : ((n + 2 : Nat) : Int) - 2 = (n : Int) := by omega
  have e3 : ((na + 1 : Nat) : Int) - ((n + 2 : Nat) : Int) = (M : Int) := by omega
  rw [hB] at htB hnB hhalf
  simp (disch := omega) only [go_sem, ↓k_cond, ↓x_idx, Nat.reduceEqDiff, Nat.reduceBEq, ↓reduceIte, reduceCtorEq, hVl, e1, e2, e3, ht1, ht2, reach, hpl, List.length_replicate]
  obtain ⟨R, hR⟩ : ∃ R : Nat × List Nat × List Nat → St → Prop, R = fun p st => st.fr 8 = .int .i64 s ∧ st.fr 9 = .ref 0 (na + 1) 0 (na + 1) ∧ st.fr 10 = natI V ∧ st.fr 11 = .int .u64 top ∧ st.fr 12 = .int .u64 next ∧ st.fr 13 = .ref 2 M 0 M ∧ st.fr 14 = .int .i64 ((p.1 : Int) - 1) ∧
      st.h 0 = ⟨128, natA .u32 p.2.1, true, true, true⟩ ∧ st.h 2 = ⟨128, natA .u32 (List.replicate p.1 0 ++ p.2.2), true, true, true⟩ ∧ Kn B32 V U M n p.1 p.2.1 p.2.2 := ⟨_, rfl⟩
  obtain ⟨F, hF⟩ : ∃ F : St → Prop, F = fun st => st.fr 8 = .int .i64 s ∧ st.fr 9 = .ref 0 (na + 1) 0 (na + 1) ∧ st.fr 13 = .ref 2 M 0 M ∧ ∃ us qs, st.h 0 = ⟨128, natA .u32 us, true, true, true⟩ ∧ st.h 2 = ⟨128, natA .u32 qs, true, true, true⟩ ∧ Kn B32 V U M n 0 us qs := ⟨_, rfl⟩
  have hMn : M + (n + 2) = na + 1 := by omega
  have hnab : na ≤ 1099511627775 := by omega
  refine k_join F ?_ ?_
  · simp (disch := omega) only [go_sem, ↓k_cond, ↓x_idx, ↓k_block, Nat.reduceEqDiff, Nat.reduceBEq, ↓reduceIte, reduceCtorEq]
    clear hb0 hab hb1 hb ha hc e1 e2 e3 hsa hsb m1 m2 m4 hSB hST hT0 f1 f2 hs htp0 htpB htp hQ
    refine k_loop R (fun p => p.1) (M, padL B32 (na + 1) U, []) (by rw [hR]; exact ⟨(by simp [upd_app] <;> omega), (by simp [upd_app] <;> omega), (by simp [upd_app, natI] <;> omega), (by simp [upd_app] <;> omega), (by simp [upd_app] <;> omega), (by simp [upd_app] <;> omega), (by simp [upd_app] <;> omega), by simp [upd_app, eatH_one], by simp [upd_app, eatH_one], hK⟩) ?_
    clear hK hn hna hla hM hpl hV hU hS hS0
    rintro ⟨i, us, qs⟩ ⟨fr, h, nx⟩ hst J hJ
    rw [hR] at hst
    obtain ⟨h8, h9, h10, h11, h12, h13, h14, hm0, hm2, hK⟩ := hst
    simp only [natI] at h8 h9 h10 h11 h12 h13 h14 hm0 hm2 hK
    have hul : us.length = na + 1 := by rw [hK.len]; omega
    rcases Nat.eq_zero_or_pos i with rfl | hp
    · simp (disch := omega) only [go_sem, ↓k_cond, ↓x_idx, ↓k_block, Nat.reduceEqDiff, Nat.reduceBEq, ↓reduceIte, reduceCtorEq, h8, h9, h10, h11, h12, h13, h14]
      rw [hF]
      exact ⟨(by simp [upd_app, h8] <;> omega), (by simp [upd_app, h9] <;> omega), (by simp [upd_app, h13] <;> omega), us, qs, hm0, by simpa using hm2, hK⟩
    · obtain ⟨j, rfl⟩ : ∃ j, i = j + 1 := ⟨i - 1, by omega⟩
      have hjM := hK.iM
      obtain ⟨top', next', u1, u2, u3, g1, g2, g3, g4, g5, c1, c2, c3, c4, c5, hD⟩ := hK.digs hN
      obtain rfl : top' = top := by rw [ht1] at g1; exact (Option.some.inj g1).symm
      obtain rfl : next' = next := by rw [ht2] at g2; exact (Option.some.inj g2).symm
      obtain ⟨W, hW⟩ : ∃ W, val B32 ((us.drop j).take (n + 3)) = W := ⟨_, rfl⟩
      rw [hW] at hD
      obtain ⟨x, hx⟩ : ∃ x, u1 * 4294967296 + u2 = x := ⟨_, rfl⟩
      have hx' : u1 * B32 + u2 = x := by rw [hB]; exact hx
      rw [hx'] at hD
      rw [hB] at c3 c4 c5
      have htop0 : ¬ (top' : Int) = 0 := by omega
      have e4 : ((j + (n + 2) : Nat) : Int) - 1 = ((j + (n + 1) : Nat) : Int) := by omega
      have e5 : ((j + (n + 2) : Nat) : Int) - 2 = ((j + n : Nat) : Int) := by omega
      have e6 : ((j + 1 : Nat) : Int) - 1 = (j : Int) := by omega
      rw [e6] at h14
      have hul2 : (natA .u32 us).length = na + 1 := by rw [natA_length, hul]
      obtain ⟨d0, hd0⟩ : ∃ d0, x / top' = d0 := ⟨_, rfl⟩
      obtain ⟨r0, hr0⟩ : ∃ r0, x % top' = r0 := ⟨_, rfl⟩
      have hst0 := hD.start
      have hst1 := hD.first
      have hst2 : d0 * top' + r0 = x := by rw [← hd0, ← hr0, Nat.mul_comm]; exact Nat.div_add_mod x top'
      have hst3 : r0 < top' := hr0 ▸ Nat.mod_lt _ (by omega)
      rw [hd0] at hst0 hst1
      simp (disch := omega) only [go_sem, ↓k_cond, ↓x_idx, Nat.reduceEqDiff, Nat.reduceBEq, ↓reduceIte, reduceCtorEq, h8, h9, h10, h11, h12, h13, h14]
      rw [k_block]
      have hx2 : x < 18446744073709551616 := by omega
      have hd0b : d0 ≤ 4294967297 := by rw [hB] at hst1; exact hst1
      simp (disch := omega) only [go_sem, ↓k_cond, ↓x_idx, Nat.reduceEqDiff, Nat.reduceBEq, ↓reduceIte, reduceCtorEq, h8, h9, h10, h11, h12, h13, h14, hVl, e4, e5, hm0, hul2, g3, g4, hx, htop0, hd0, hr0]
      obtain ⟨G, hG⟩ : ∃ G : St → Prop, G = fun st => st.fr 8 = .int .i64 s ∧ st.fr 9 = .ref 0 (na + 1) 0 (na + 1) ∧ st.fr 10 = natI V ∧ st.fr 11 = .int .u64 top' ∧ st.fr 12 = .int .u64 next' ∧ st.fr 13 = .ref 2 M 0 M ∧ st.fr 14 = .int .i64 j ∧ st.fr 15 = .int .i64 ((j + (n + 2) : Nat) : Int) ∧
          st.h 0 = ⟨128, natA .u32 us, true, true, true⟩ ∧ st.h 2 = ⟨128, natA .u32 (List.replicate (j + 1) 0 ++ qs), true, true, true⟩ ∧ ∃ d, st.fr 17 = .int .u64 d ∧ Est B32 V W d := ⟨_, rfl⟩
      refine k_join G ?_ ?_
      · simp (disch := omega) only [go_sem, ↓k_cond, ↓x_idx, ↓k_block, Nat.reduceEqDiff, Nat.reduceBEq, ↓reduceIte, reduceCtorEq]
        clear hJ hR hF
        obtain ⟨R2, hR2⟩ : ∃ R2 : Nat × Nat → St → Prop, R2 = fun p st => st.fr 8 = .int .i64 s ∧ st.fr 9 = .ref 0 (na + 1) 0 (na + 1) ∧ st.fr 10 = natI V ∧ st.fr 11 = .int .u64 top' ∧ st.fr 12 = .int .u64 next' ∧ st.fr 13 = .ref 2 M 0 M ∧ st.fr 14 = .int .i64 j ∧ st.fr 15 = .int .i64 ((j + (n + 2) : Nat) : Int) ∧
          st.h 0 = ⟨128, natA .u32 us, true, true, true⟩ ∧ st.h 2 = ⟨128, natA .u32 (List.replicate (j + 1) 0 ++ qs), true, true, true⟩ ∧ st.fr 17 = .int .u64 p.1 ∧ st.fr 18 = .int .u64 p.2 ∧ p.1 * top' + p.2 = x ∧ W < (p.1 + 1) * V ∧ p.1 ≤ 4294967297 ∧ p.2 < 4294967296 := ⟨_, rfl⟩
        refine k_loop R2 (fun p => p.1) (d0, r0) (by rw [hR2]; exact ⟨(by simp [upd_app, h8] <;> omega), (by simp [upd_app, h9] <;> omega), (by simp [upd_app, h10, natI] <;> omega), (by simp [upd_app, h11] <;> omega), (by simp [upd_app, h12] <;> omega), (by simp [upd_app, h13] <;> omega), (by simp [upd_app, h14] <;> omega), (by simp [upd_app] <;> omega), hm0, hm2, (by simp [upd_app] <;> omega), (by simp [upd_app] <;> omega), hst2, hst0, hd0b, by simp only; omega⟩) ?_
        clear h8 h9 h10 h11 h12 h13 h14 hm0 hm2 hst0 hst1 hst2 hst3 hd0 hr0 hd0b
        rintro ⟨d, r⟩ ⟨fr, h, nx⟩ hst J2 hJ2
        rw [hR2] at hst
        obtain ⟨h8, h9, h10, h11, h12, h13, h14, h15, hm0, hm2, h17, h18, q1, q2, q3, q4⟩ := hst
        simp only [natI] at h8 h9 h10 h11 h12 h13 h14 h15 hm0 hm2 h17 h18 q1 q2 q3 q4
        have key : 4294967296 ≤ d ∨ r * 4294967296 + u3 < d * next' → 0 < d ∧ ((d : Int) - 1 = ((d - 1 : Nat) : Int)) ∧ (∀ st : St, st.fr 8 = .int .i64 s → st.fr 9 = .ref 0 (na + 1) 0 (na + 1) → st.fr 10 = natI V → st.fr 11 = .int .u64 top' → st.fr 12 = .int .u64 next' → st.fr 13 = .ref 2 M 0 M → st.fr 14 = .int .i64 j → st.fr 15 = .int .i64 ((j + (n + 2) : Nat) : Int) →
            st.h = h → st.fr 17 = .int .u64 ((d - 1 : Nat) : Int) → st.fr 18 = .int .u64 ((r + top' : Nat) : Int) → r + top' < 4294967296 → J2 st) ∧ (4294967296 ≤ r + top' → Est B32 V W (d - 1)) := by
          intro hc
          rw [← hB] at hc
          obtain ⟨p1, p2, p3⟩ := hD.less q1 hc
          refine ⟨p1, by omega, fun st r8 r9 r10 r11 r12 r13 r14 r15 rh r17 r18 hr => hJ2 (d - 1, r + top') st ?_ (by simp only; omega), fun hr => ?_⟩
          · rw [hR2]; exact ⟨r8, r9, r10, r11, r12, r13, r14, r15, by rw [rh]; exact hm0, by rw [rh]; exact hm2, r17, r18, p3, p2, by simp only; omega, hr⟩
          · refine hD.early p3 p2 ?_ (by rw [hB]; exact hr)
            rcases Nat.lt_or_ge B32 d with h' | h'
            · have := hD.small q1 h'; rw [hB] at this; omega
            · omega
        have fin : d < 4294967296 → d * next' ≤ r * 4294967296 + u3 → Est B32 V W d := fun a b => hD.done q1 q2 (by rw [hB]; exact a) (by rw [hB]; exact b)
        clear hJ2 hR2 q1 q2 hD hN hK
        obtain ⟨z, hz⟩ : ∃ z, d * next' = z := ⟨_, rfl⟩
        rw [hz] at key fin
        by_cases hdB : 4294967296 ≤ d
        · obtain ⟨p1, p2, p3, p4⟩ := key (.inl hdB)
          by_cases hr : 4294967296 ≤ r + top'
          · simp (disch := omega) only [go_sem, ↓k_cond, ↓x_idx, ↓k_block, Nat.reduceEqDiff, Nat.reduceBEq, ↓reduceIte, reduceCtorEq, h8, h9, h10, h11, h12, h13, h14, h15, h17, h18, p2]
            rw [hG]; exact ⟨(by simp [upd_app, h8] <;> omega), (by simp [upd_app, h9] <;> omega), (by simp [upd_app, h10, natI] <;> omega), (by simp [upd_app, h11] <;> omega), (by simp [upd_app, h12] <;> omega), (by simp [upd_app, h13] <;> omega), (by simp [upd_app, h14] <;> omega), (by simp [upd_app, h15] <;> omega), hm0, hm2, d - 1, (by simp [upd_app] <;> omega), p4 hr⟩
          · simp (disch := omega) only [go_sem, ↓k_cond, ↓x_idx, ↓k_block, Nat.reduceEqDiff, Nat.reduceBEq, ↓reduceIte, reduceCtorEq, h8, h9, h10, h11, h12, h13, h14, h15, h17, h18, p2]
            exact p3 _ (by simp [upd_app, h8] <;> omega) (by simp [upd_app, h9] <;> omega) (by simp [upd_app, h10, natI] <;> omega) (by simp [upd_app, h11] <;> omega) (by simp [upd_app, h12] <;> omega) (by simp [upd_app, h13] <;> omega) (by simp [upd_app, h14] <;> omega) (by simp [upd_app, h15] <;> omega) rfl (by simp [upd_app] <;> omega) (by simp [upd_app] <;> omega) (by omega)
        · have hzb : z ≤ 4294967295 * 4294967295 := by rw [← hz]; exact Nat.mul_le_mul (by omega) (by omega)
          by_cases hcc : r * 4294967296 + u3 < z
          · obtain ⟨p1, p2, p3, p4⟩ := key (.inr hcc)
            by_cases hr : 4294967296 ≤ r + top'
            · simp (disch := omega) only [go_sem, ↓k_cond, ↓x_idx, ↓k_block, Nat.reduceEqDiff, Nat.reduceBEq, ↓reduceIte, reduceCtorEq, h8, h9, h10, h11, h12, h13, h14, h15, h17, h18, p2, e5, hm0, hul2, g5, hz]
              rw [hG]; exact ⟨(by simp [upd_app, h8] <;> omega), (by simp [upd_app, h9] <;> omega), (by simp [upd_app, h10, natI] <;> omega), (by simp [upd_app, h11] <;> omega), (by simp [upd_app, h12] <;> omega), (by simp [upd_app, h13] <;> omega), (by simp [upd_app, h14] <;> omega), (by simp [upd_app, h15] <;> omega), hm0, hm2, d - 1, (by simp [upd_app] <;> omega), p4 hr⟩
            · simp (disch := omega) only [go_sem, ↓k_cond, ↓x_idx, ↓k_block, Nat.reduceEqDiff, Nat.reduceBEq, ↓reduceIte, reduceCtorEq, h8, h9, h10, h11, h12, h13, h14, h15, h17, h18, p2, e5, hm0, hul2, g5, hz]
              exact p3 _ (by simp [upd_app, h8] <;> omega) (by simp [upd_app, h9] <;> omega) (by simp [upd_app, h10, natI] <;> omega) (by simp [upd_app, h11] <;> omega) (by simp [upd_app, h12] <;> omega) (by simp [upd_app, h13] <;> omega) (by simp [upd_app, h14] <;> omega) (by simp [upd_app, h15] <;> omega) rfl (by simp [upd_app] <;> omega) (by simp [upd_app] <;> omega) (by omega)
          · simp (disch := omega) only [go_sem, ↓k_cond, ↓x_idx, ↓k_block, Nat.reduceEqDiff, Nat.reduceBEq, ↓reduceIte, reduceCtorEq, h8, h9, h10, h11, h12, h13, h14, h15, h17, h18, e5, hm0, hul2, g5, hz]
            rw [hG]; exact ⟨(by simp [upd_app, h8] <;> omega), (by simp [upd_app, h9] <;> omega), (by simp [upd_app, h10, natI] <;> omega), (by simp [upd_app, h11] <;> omega), (by simp [upd_app, h12] <;> omega), (by simp [upd_app, h13] <;> omega), (by simp [upd_app, h14] <;> omega), (by simp [upd_app, h15] <;> omega), hm0, hm2, d, (by simp [upd_app, h17] <;> omega), fin (by omega) (by omega)⟩
      clear h8 h9 h10 h11 h12 h13 h14 hm0 hm2 hst0 hst1 hst2 hst3 hd0 hr0 hd0b
      rintro ⟨fr, h, nx⟩ hst
      rw [hG] at hst
      obtain ⟨h8, h9, h10, h11, h12, h13, h14, h15, hm0, hm2, d, h17, hE⟩ := hst
      simp only [natI] at h8 h9 h10 h11 h12 h13 h14 h15 hm0 hm2 h17
      obtain ⟨w1, w2, w3, w4, w5⟩ := hK.win hN
      have hlj : (us.take j).length = j := by simp; omega
      have hsub : j + (n + 2) + 1 - j = n + 3 := by omega
      have hdlt := hE.lt
      have hdlow := hE.low
      have hV0 := hN.pos
      have hul2 : (natA .u32 us).length = na + 1 := by rw [natA_length, hul]
      have hdB2 : d < 4294967296 := by rw [← hB]; exact hdlt
      simp (disch := omega) only [go_sem, ↓k_cond, ↓x_idx, ↓k_block, Nat.reduceEqDiff, Nat.reduceBEq, ↓reduceIte, reduceCtorEq, h8, h9, h10, h11, h12, h13, h14, h15, h17, hm0, hul2, hsub]
      refine x_callI (i_takeAway (id := 0) (n := na + 1) (pre := us.take j) (ws := (us.drop j).take (n + 3)) (post := us.drop (j + (n + 3))) V d (by rw [← split3]; exact hm0) (by rw [← split3]; exact hul) w2 (by rw [w1, hVl]; omega) (by omega) hdlt (by rw [hW]; exact hdlow)) ci_takeAway (by rw [hlj, w1]; simp [evA, upd_app, natI]) (.inl rfl) ?_
      rw [hW, w1]
      have e7 : (natA .u32 (List.replicate (j + 1) 0 ++ qs)).length = M := by have := hK.qlen; rw [natA_length]; simp; omega
      have e8 : (List.replicate (j + 1) 0 ++ qs)[j]? = some 0 := by rw [List.getElem?_append_left (by simp), List.getElem?_replicate, if_pos (by omega)]
      have hdm := Nat.div_add_mod' W V
      by_cases hover : W < d * V
      · obtain ⟨p1, p2, p3, p4⟩ := hE.over hV0 hover
        have haw : awayV W V d = W % V := by rw [awayV, if_pos hover, p3, p2]; omega
        have hK' := hK.step hN (q := d - 1) (r := W % V) (by rw [hW]; exact p2) (by rw [hW])
        have hd1 : (d : Int) - 1 = ((d - 1 : Nat) : Int) := by omega
        have hdec : decide (W < d * V) = true := by simpa using hover
        rw [haw, hdec]
        have key : ∀ st : St, st.fr 8 = .int .i64 s → st.fr 9 = .ref 0 (na + 1) 0 (na + 1) → st.fr 10 = natI V → st.fr 11 = .int .u64 top' → st.fr 12 = .int .u64 next' → st.fr 13 = .ref 2 M 0 M → st.fr 14 = .int .i64 ((j : Int) - 1) →
            st.h 0 = ⟨128, natA .u32 (us.take j ++ padL B32 (n + 3) (W % V) ++ us.drop (j + (n + 3))), true, true, true⟩ → st.h 2 = ⟨128, natA .u32 (List.replicate j 0 ++ (d - 1) :: qs), true, true, true⟩ → J st :=
          fun st r8 r9 r10 r11 r12 r13 r14 rh0 rh2 => hJ (j, us.take j ++ padL B32 (n + 3) (W % V) ++ us.drop (j + (n + 3)), (d - 1) :: qs) st (by rw [hR]; exact ⟨r8, r9, r10, r11, r12, r13, r14, rh0, rh2, hK'⟩) (by simp only; omega)
        clear hJ hover haw hdm p2 p3 p4 hE hdlow hdlt hR hF hD hK hK' w1 w2 w3 w4 w5
        simp (disch := omega) only [go_sem, ↓k_cond, ↓x_idx, ↓k_block, Nat.reduceEqDiff, Nat.reduceBEq, ↓reduceIte, reduceCtorEq, h8, h9, h10, h11, h12, h13, h14, h15, h17, hd1, hm2, e7, e8]
        exact key _ (by simp [upd_app, h8] <;> omega) (by simp [upd_app, h9] <;> omega) (by simp [upd_app, h10, natI] <;> omega) (by simp [upd_app, h11] <;> omega) (by simp [upd_app, h12] <;> omega) (by simp [upd_app, h13] <;> omega) (by simp [upd_app] <;> omega) (by simp [upd_app]) (by simp only [upd_app, ↓reduceIte, replicate_set])
      · have hq := hE.right hV0 (by omega)
        have haw : awayV W V d = W % V := by rw [awayV, if_neg hover, hq]; omega
        have hK' := hK.step hN (q := d) (r := W % V) (by rw [hW]; exact hq) (by rw [hW])
        have hdec : decide (W < d * V) = false := by simpa using hover
        rw [haw, hdec]
        have key : ∀ st : St, st.fr 8 = .int .i64 s → st.fr 9 = .ref 0 (na + 1) 0 (na + 1) → st.fr 10 = natI V → st.fr 11 = .int .u64 top' → st.fr 12 = .int .u64 next' → st.fr 13 = .ref 2 M 0 M → st.fr 14 = .int .i64 ((j : Int) - 1) →
            st.h 0 = ⟨128, natA .u32 (us.take j ++ padL B32 (n + 3) (W % V) ++ us.drop (j + (n + 3))), true, true, true⟩ → st.h 2 = ⟨128, natA .u32 (List.replicate j 0 ++ d :: qs), true, true, true⟩ → J st :=
          fun st r8 r9 r10 r11 r12 r13 r14 rh0 rh2 => hJ (j, us.take j ++ padL B32 (n + 3) (W % V) ++ us.drop (j + (n + 3)), d :: qs) st (by rw [hR]; exact ⟨r8, r9, r10, r11, r12, r13, r14, rh0, rh2, hK'⟩) (by simp only; omega)
        clear hJ hover haw hdm hq hE hdlow hdlt hR hF hD hK hK' w1 w2 w3 w4 w5
        simp (disch := omega) only [go_sem, ↓k_cond, ↓x_idx, ↓k_block, Nat.reduceEqDiff, Nat.reduceBEq, ↓reduceIte, reduceCtorEq, h8, h9, h10, h11, h12, h13, h14, h15, h17, hm2, e7, e8]
        exact key _ (by simp [upd_app, h8] <;> omega) (by simp [upd_app, h9] <;> omega) (by simp [upd_app, h10, natI] <;> omega) (by simp [upd_app, h11] <;> omega) (by simp [upd_app, h12] <;> omega) (by simp [upd_app, h13] <;> omega) (by simp [upd_app] <;> omega) (by simp [upd_app]) (by simp only [upd_app, ↓reduceIte, replicate_set])
  rintro ⟨fr, h, nx⟩ hst
  rw [hF] at hst
  obtain ⟨h8, h9, h13, us, qs, hm0, hm2, hK⟩ := hst
  simp only at h8 h9 h13 hm0 hm2
  obtain ⟨z1, z2⟩ := hK.done hN
  have hul : us.length = na + 1 := by rw [hK.len, hMn]
  have hqlen : qs.length = M := by have := hK.qlen; omega
  have husd := hK.lt
  have hqd := hK.qlt
  rw [f1] at z1
  rw [f2] at z2
  have htz : trimZ us = enc B32 (a % b * S) := by rw [trimZ_enc B32_gt husd, z2]
  obtain ⟨L, hL⟩ : ∃ L, (enc B32 (a % b * S)).length = L := ⟨_, rfl⟩
  have hLna : L ≤ na + 1 := by
    rw [← hL, ← z2]
    exact enc_len_le B32_gt (by rw [← hul]; exact val_lt husd)
  have hpad := enc_pad B32_gt husd
  rw [z2, hul, hL] at hpad
  have hqt : trimZ (qs.take M) = enc B32 (a / b) := by rw [List.take_of_length_le (by omega), trimZ_enc B32_gt hqd, z1]
  clear hb0 hab hb1 hb ha hc e1 e2 e3 hsa hsb m1 m2 m4 hSB f1 f2 hs htp0 htpB htp hN hK hF hR hV hU hM hla hn hpl ht1 ht2 htB hnB hhalf hVl z1 z2
  simp (disch := omega) only [go_sem, ↓k_cond, ↓x_idx, ↓k_block, Nat.reduceEqDiff, Nat.reduceBEq, ↓reduceIte, reduceCtorEq, h8, h9, h13]
  have hTI := i_TrimIn (fr := upd fr 144 (.ref 0 (na + 1) 0 (na + 1))) (h := h) (nx := nx) (id := 0) (n := na + 1) (xs := us) (by rw [hm0]) (by rw [hm0, natA_length, hul]) (by rw [hm0]) (by omega) (by omega) (by rw [hm0, natA_take, hul, List.take_of_length_le (by omega)])
  rw [htz, hL, hul] at hTI
  refine x_callI hTI ci_trim (by simp [evA, upd_app]) (.inl rfl) ?_
  have hml : (natA .u32 us).length = na + 1 := by rw [natA_length, hul]
  simp (disch := omega) only [go_sem, ↓k_cond, ↓x_idx, ↓k_block, Nat.reduceEqDiff, Nat.reduceBEq, ↓reduceIte, reduceCtorEq, h8, h9, h13, hm0, hml]
  obtain ⟨R3, hR3⟩ : ∃ R3 : Nat → St → Prop, R3 = fun i st => st.fr 8 = .int .i64 s ∧ st.fr 9 = .ref 0 (na + 1) 0 L ∧ st.fr 13 = .ref 2 M 0 M ∧ st.fr 147 = .int .i64 L ∧ st.fr 148 = .int .i64 i ∧ i ≤ L ∧
      st.h 0 = ⟨128, natA .u32 (((padL B32 L (a % b)).take i ++ (enc B32 (a % b * S)).drop i) ++ List.replicate (na + 1 - L) 0), true, true, true⟩ ∧ st.h 2 = ⟨128, natA .u32 qs, true, true, true⟩ := ⟨_, rfl⟩
  refine k_loop R3 (fun i => L - i) 0 (by rw [hR3]; exact ⟨(by simp [upd_app, h8] <;> omega), (by simp [upd_app] <;> omega), (by simp [upd_app, h13] <;> omega), (by simp [upd_app] <;> omega), (by simp [upd_app] <;> omega), by simp, by rw [List.take_zero, List.nil_append, List.drop_zero, ← hpad]; exact hm0, hm2⟩) ?_
  clear hTI h8 h9 h13 hm0 hm2 hml
  have hpl : (padL B32 L (a % b)).length = L := by
    refine pad_len B32_gt ?_
    have h1 := enc_len_pow B32_gt (n := a % b * S)
    rw [hL] at h1
    have := Nat.mul_le_mul_left (a % b) hS0
    omega
  rintro i ⟨fr, h, nx⟩ hst J hJ
  rw [hR3] at hst
  obtain ⟨h8, h9, h13, h147, h148, hi, hm0, hm2⟩ := hst
  simp only at h8 h9 h13 h147 h148 hm0 hm2
  by_cases hin : i < L
  · obtain ⟨x, hx⟩ := get_some (xs := enc B32 (a % b * S)) (i := i) (by omega)
    have hxB := enc_lt B32_gt _ x (List.mem_of_getElem? hx)
    obtain ⟨hg, hhg⟩ : ∃ hg, (enc B32 (a % b * S)).getD (i + 1) 0 = hg := ⟨_, rfl⟩
    have hgB : hg < B32 := hhg ▸ getD_lt B32_gt (enc_lt B32_gt _) _
    have hat := shr_at B32_gt hST hS0 hT0 (by rw [← hL]; exact enc_len_pow B32_gt) hx hin
    rw [hhg, Nat.mul_div_cancel _ hS0] at hat
    have hset := take_drop_set (R := enc B32 (a % b * S)) hat (by omega)
    have hbl : ((padL B32 L (a % b)).take i ++ (enc B32 (a % b * S)).drop i).length = L := by simp; omega
    have hall : (natA .u32 (((padL B32 L (a % b)).take i ++ (enc B32 (a % b * S)).drop i) ++ List.replicate (na + 1 - L) 0)).length = na + 1 := by rw [natA_length, List.length_append, hbl]; simp; omega
    have hti : ((padL B32 L (a % b)).take i).length = i := by simp; omega
    have hr1 : (((padL B32 L (a % b)).take i ++ (enc B32 (a % b * S)).drop i) ++ List.replicate (na + 1 - L) 0)[i]? = some x := by
      rw [List.getElem?_append_left (by omega), List.getElem?_append_right (by omega), hti, List.getElem?_drop, Nat.sub_self, Nat.add_zero]; exact hx
    have hr2 : i + 1 < L → (((padL B32 L (a % b)).take i ++ (enc B32 (a % b * S)).drop i) ++ List.replicate (na + 1 - L) 0)[i + 1]? = some hg := by
      intro h1
      rw [List.getElem?_append_left (by omega), List.getElem?_append_right (by omega), hti, List.getElem?_drop, show i + (i + 1 - i) = i + 1 by omega, ← hhg]; exact getD_some (by omega)
    have hws : ∀ v, (((padL B32 L (a % b)).take i ++ (enc B32 (a % b * S)).drop i) ++ List.replicate (na + 1 - L) 0).set i v = (((padL B32 L (a % b)).take i ++ (enc B32 (a % b * S)).drop i).set i v) ++ List.replicate (na + 1 - L) 0 := fun v => List.set_append_left _ _ (by omega)
    have hg0 : ¬ i + 1 < L → hg = 0 := fun h1 => hhg ▸ getD_none (by omega)
    have key : ∀ st : St, st.fr 8 = .int .i64 s → st.fr 9 = .ref 0 (na + 1) 0 L → st.fr 13 = .ref 2 M 0 M → st.fr 147 = .int .i64 L → st.fr 148 = .int .i64 ((i + 1 : Nat) : Int) →
        st.h 0 = ⟨128, natA .u32 ((((padL B32 L (a % b)).take i ++ (enc B32 (a % b * S)).drop i).set i ((hg * 4294967296 + x) / S % 4294967296)) ++ List.replicate (na + 1 - L) 0), true, true, true⟩ → st.h 2 = ⟨128, natA .u32 qs, true, true, true⟩ → J st := by
      intro st r8 r9 r13 r147 r148 rh0 rh2
      rw [← hB, hset] at rh0
      exact hJ (i + 1) st (by rw [hR3]; exact ⟨r8, r9, r13, r147, r148, hin, rh0, rh2⟩) (by omega)
    generalize ((padL B32 L (a % b)).take i ++ (enc B32 (a % b * S)).drop i) ++ List.replicate (na + 1 - L) 0 = ds at *
    have hq64 : (hg * 4294967296 + x) / S < 18446744073709551616 := Nat.lt_of_le_of_lt (Nat.div_le_self _ _) (by omega)
    clear hJ hR3 hset hat hhg hpl hbl hti hx hpad hqt htz hL
    rw [hB] at hxB hgB
    have hs64 : s ≤ 64 := by omega
    obtain ⟨y, hy⟩ : ∃ y, (hg * 4294967296 + x) / S = y := ⟨_, rfl⟩
    rw [hy] at key hq64
    by_cases h1 : i + 1 < L
    · have hr2' := hr2 h1
      clear hr2 hg0
      simp (disch := omega) only [go_sem, ↓k_cond, ↓x_idx, ↓k_block, Nat.reduceEqDiff, Nat.reduceBEq, ↓reduceIte, reduceCtorEq, h8, h9, h13, h147, h148, hm0, hall, hr1, hr2', hws, shrV, hS, hy, wrapU32, wrapU32m]
      exact key _ (by simp [upd_app, h8] <;> omega) (by simp [upd_app, h9] <;> omega) (by simp [upd_app, h13] <;> omega) (by simp [upd_app, h147] <;> omega) (by simp [upd_app] <;> omega) (by simp [upd_app]) (by simp [upd_app, hm2])
    · have hg0' := hg0 h1
      subst hg0'
      simp only [Nat.zero_mul, Nat.zero_add] at hy
      clear hr2 hg0
      simp (disch := omega) only [go_sem, ↓k_cond, ↓x_idx, ↓k_block, Nat.reduceEqDiff, Nat.reduceBEq, ↓reduceIte, reduceCtorEq, h8, h9, h13, h147, h148, hm0, hall, hr1, hws, shrV, hS, hy, wrapU32, wrapU32m, Int.zero_mul, Int.zero_add]
      exact key _ (by simp [upd_app, h8] <;> omega) (by simp [upd_app, h9] <;> omega) (by simp [upd_app, h13] <;> omega) (by simp [upd_app, h147] <;> omega) (by simp [upd_app] <;> omega) (by simp [upd_app]) (by simp [upd_app, hm2])
  · obtain rfl : i = L := by omega
    rw [List.take_of_length_le (by omega), List.drop_eq_nil_of_le (by omega), List.append_nil] at hm0
    clear hJ hR3
    simp (disch := omega) only [go_sem, ↓k_cond, ↓x_idx, ↓k_block, Nat.reduceEqDiff, Nat.reduceBEq, ↓reduceIte, reduceCtorEq, h8, h9, h13, h147, h148]
    refine x_callF (i_Trim (qs.take M) (by simp; omega)) ci_trim (by simp [evA, upd_app]) (snapL_one (id := 2) (st := ⟨_, _, _⟩) hm2 hqlen (Nat.le_refl _)) (by simp [hm2]) (by simp [AV.pure, AV.pureL, natA_pure, natI_pure, natS_pure]) (by simp [AV.pure, AV.pureL, natA_pure, natI_pure, natS_pure]) (by simp) ?_
    rw [hqt]
    simp (disch := omega) only [go_sem, ↓k_cond, ↓x_idx, ↓k_block, Nat.reduceEqDiff, Nat.reduceBEq, ↓reduceIte, reduceCtorEq, h9]
    refine x_callF (i_Trim ((padL B32 i (a % b) ++ List.replicate (na + 1 - i) 0).take i) (by simp; omega)) ci_trim (by simp [evA, upd_app]) (snapL_one (id := 0) (n := na + 1) (st := ⟨_, _, _⟩) (by simp [eatH_one]; exact hm0) (by simp [hpl]; omega) (by omega)) (by simp [eatH_one, hm0]) (by simp [AV.pure, AV.pureL, natA_pure, natI_pure, natS_pure]) (by simp [AV.pure, AV.pureL, natA_pure, natI_pure, natS_pure]) (by simp) ?_
    have e9 : trimZ ((padL B32 i (a % b) ++ List.replicate (na + 1 - i) 0).take i) = enc B32 (a % b) := by
      rw [List.take_append_of_le_length (by omega), List.take_of_length_le (by omega), trimZ_enc B32_gt (pad_lt B32_gt), pad_val B32_gt]
    rw [e9]
    simp (disch := omega) only [go_sem, ↓k_cond, ↓x_idx, ↓k_block, Nat.reduceEqDiff, Nat.reduceBEq, ↓reduceIte, reduceCtorEq]
    rw [← hQ]
    exact post_two (.inl rfl) rfl (by simp [upd_app, natI] <;> omega) (by simp [upd_app, natI] <;> omega) (by simp) (by simp)
theorem ci_gcd : callable Tryz.prog 82 = true := by kernel_rfl
theorem gcd_step (x y : Nat) : Nat.gcd y (x % y) = Nat.gcd x y := by rw [Nat.gcd_comm, ← Nat.gcd_rec, Nat.gcd_comm]
theorem enc_len_mono {B m n : Nat} (hB : 1 < B) (h : m ≤ n) : (enc B m).length ≤ (enc B n).length := enc_len_le hB (Nat.lt_of_le_of_lt h (enc_len_pow hB))
theorem enc_len_pos {B n : Nat} (hB : 1 < B) (h : n ≠ 0) : 0 < (enc B n).length := by
  rcases Nat.eq_zero_or_pos (enc B n).length with h' | h'
  · exact absurd ((enc_nil hB).1 (List.length_eq_zero_iff.1 h')) h
  · exact h'

theorem i_gcd (a b : Nat) (ha : (enc B32 a).length ≤ 1099511627775) (hb : (enc B32 b).length ≤ 1099511627775) : CallOk Tryz.prog 82 [natI a, natI b] (natI (Nat.gcd a b)) [] := by
  (refine callOk_of_wpc (W := fun _ => false) false hm' Tryz.func82 rfl (by kernel_rfl) (Nat.le_of_ble_eq_true rfl) (go_start ?_); generalize hQ : Post Tryz.prog Tryz.f82 _ _ _ _ _ = Q; simp only [stIn, matL, matA, st00, natI])
  simp (disch := omega) only [go_sem, ↓k_cond, ↓x_idx, ↓k_block, Nat.reduceEqDiff, Nat.reduceBEq, ↓reduceIte, reduceCtorEq]
  refine k_loop (fun (p : Nat × Nat) st => st.fr 0 = natI p.1 ∧ st.fr 1 = natI p.2 ∧ Nat.gcd p.1 p.2 = Nat.gcd a b ∧ (enc B32 p.1).length ≤ 1099511627775 ∧ (enc B32 p.2).length ≤ 1099511627775) (fun p => p.2) (a, b)
    ⟨(by simp [upd_app, natI] <;> omega), (by simp [upd_app, natI] <;> omega), rfl, ha, hb⟩ ?_
  rintro ⟨x, y⟩ ⟨fr, h, nx⟩ ⟨h0, h1, hg, hx, hy⟩ J hJ
  simp only [natI] at h0 h1 hg hx hy
  by_cases hy0 : y = 0
  · subst hy0
    rw [Nat.gcd_zero_right] at hg
    rw [enc_zero] at h1
    simp (disch := omega) only [go_sem, ↓k_cond, ↓x_idx, ↓k_block, Nat.reduceEqDiff, Nat.reduceBEq, ↓reduceIte, reduceCtorEq, h0, h1, List.length_nil]
    rw [← hQ]
    exact post_one (.inl rfl) rfl (by simp [upd_app, h0, natI, hg] <;> omega) (by simp)
  · have hyl := enc_len_pos B32_gt hy0
    have hsx := i_small x (by omega)
    have hsy := i_small y (by omega)
    simp only [smallI] at hsx hsy
    have hgs := gcd_step x y
    have hK : (enc B32 (x % y)).length ≤ 1099511627775 := Nat.le_trans (enc_len_mono B32_gt (Nat.le_of_lt (Nat.mod_lt _ (by omega)))) hy
    have hdiv := i_div x y (by omega) hy0 (by omega)
    have hlt : x % y < y := Nat.mod_lt _ (by omega)
    have go2 : ∀ st : St, st.fr 0 = natI y → st.fr 1 = natI (x % y) → J st := fun st r0 r1 => hJ (y, x % y) st ⟨r0, r1, by rw [← hg]; exact hgs, hy, hK⟩ hlt
    simp (disch := omega) only [go_sem, ↓k_cond, ↓x_idx, ↓k_block, Nat.reduceEqDiff, Nat.reduceBEq, ↓reduceIte, reduceCtorEq, h0, h1]
    by_cases hxs : x < 18446744073709551616
    · rw [if_pos hxs] at hsx
      refine x_callP (hsx) ci_small (by simp [evA, upd_app, ofVal, ofCell, natI, h0]) (by simp [AV.pure, AV.pureL, natA_pure, natI_pure, natS_pure]) (by simp [AV.pure, AV.pureL, natA_pure, natI_pure, natS_pure]) ?_
      by_cases hys : y < 18446744073709551616
      · rw [if_pos hys] at hsy
        simp (disch := omega) only [go_sem, ↓k_cond, ↓x_idx, ↓k_block, Nat.reduceEqDiff, Nat.reduceBEq, ↓reduceIte, reduceCtorEq, h0, h1]
        refine x_callP (hsy) ci_small (by simp [evA, upd_app, ofVal, ofCell, natI, h1]) (by simp [AV.pure, AV.pureL, natA_pure, natI_pure, natS_pure]) (by simp [AV.pure, AV.pureL, natA_pure, natI_pure, natS_pure]) ?_
        simp (disch := omega) only [go_sem, ↓k_cond, ↓x_idx, ↓k_block, Nat.reduceEqDiff, Nat.reduceBEq, ↓reduceIte, reduceCtorEq]
        clear hJ go2 hdiv hsx hsy
        refine k_loop (fun (p : Nat × Nat) st => st.fr 5 = .int .u64 p.1 ∧ st.fr 7 = .int .u64 p.2 ∧ Nat.gcd p.1 p.2 = Nat.gcd a b ∧ p.1 < 18446744073709551616 ∧ p.2 < 18446744073709551616) (fun p => p.2) (x, y) ⟨(by simp [upd_app] <;> omega), (by simp [upd_app] <;> omega), hg, hxs, hys⟩ ?_
        clear h0 h1 hg hgs hK hx hy hlt hyl hy0 hxs hys
        rintro ⟨u, v⟩ ⟨fr, h, nx⟩ ⟨h5, h7, hg, hu, hv⟩ J2 hJ2
        simp only at h5 h7 hg hu hv
        rcases Nat.eq_zero_or_pos v with rfl | hv0
        · simp (disch := omega) only [go_sem, ↓k_cond, ↓x_idx, ↓k_block, Nat.reduceEqDiff, Nat.reduceBEq, ↓reduceIte, reduceCtorEq, h5, h7]
          refine x_callP (i_natOf u hu) ci_natOf (by simp [evA, upd_app, ofVal, ofCell, h5]) (by simp [AV.pure, AV.pureL, natA_pure, natI_pure, natS_pure]) (by simp [AV.pure, AV.pureL, natA_pure, natI_pure, natS_pure]) ?_
          simp (disch := omega) only [go_sem, ↓k_cond, ↓x_idx, ↓k_block, Nat.reduceEqDiff, Nat.reduceBEq, ↓reduceIte, reduceCtorEq]
          rw [Nat.gcd_zero_right] at hg
          rw [← hQ]
          exact post_one (.inl rfl) rfl (by simp [upd_app, hg] <;> omega) (by simp)
        · have hm : u % v < v := Nat.mod_lt _ hv0
          have hne : ¬ (v : Int) = 0 := by omega
          simp (disch := omega) only [go_sem, ↓k_cond, ↓x_idx, ↓k_block, Nat.reduceEqDiff, Nat.reduceBEq, ↓reduceIte, reduceCtorEq, h5, h7, hne]
          exact hJ2 (v, u % v) _ ⟨(by simp [upd_app] <;> omega), (by simp [upd_app] <;> omega), by rw [← hg]; exact gcd_step u v, hv, by simp only; omega⟩ hm
      · rw [if_neg hys] at hsy
        simp (disch := omega) only [go_sem, ↓k_cond, ↓x_idx, ↓k_block, Nat.reduceEqDiff, Nat.reduceBEq, ↓reduceIte, reduceCtorEq, h0, h1]
        refine x_callP (hsy) ci_small (by simp [evA, upd_app, ofVal, ofCell, natI, h1]) (by simp [AV.pure, AV.pureL, natA_pure, natI_pure, natS_pure]) (by simp [AV.pure, AV.pureL, natA_pure, natI_pure, natS_pure]) ?_
        simp (disch := omega) only [go_sem, ↓k_cond, ↓x_idx, ↓k_block, Nat.reduceEqDiff, Nat.reduceBEq, ↓reduceIte, reduceCtorEq, h0, h1]
        refine x_callP (hdiv) ci_div (by simp [evA, upd_app, ofVal, ofCell, natI, h0, h1]) (by simp [AV.pure, AV.pureL, natA_pure, natI_pure, natS_pure]) (by simp [AV.pure, AV.pureL, natA_pure, natI_pure, natS_pure]) ?_
        simp (disch := omega) only [go_sem, ↓k_cond, ↓x_idx, ↓k_block, Nat.reduceEqDiff, Nat.reduceBEq, ↓reduceIte, reduceCtorEq, h0, h1]
        exact go2 _ (by simp [upd_app, natI] <;> omega) (by simp [upd_app] <;> omega)
    · rw [if_neg hxs] at hsx
      refine x_callP (hsx) ci_small (by simp [evA, upd_app, ofVal, ofCell, natI, h0]) (by simp [AV.pure, AV.pureL, natA_pure, natI_pure, natS_pure]) (by simp [AV.pure, AV.pureL, natA_pure, natI_pure, natS_pure]) ?_
      simp (disch := omega) only [go_sem, ↓k_cond, ↓x_idx, ↓k_block, Nat.reduceEqDiff, Nat.reduceBEq, ↓reduceIte, reduceCtorEq, h0, h1]
      by_cases hys : y < 18446744073709551616
      · rw [if_pos hys] at hsy
        refine x_callP (hsy) ci_small (by simp [evA, upd_app, ofVal, ofCell, natI, h1]) (by simp [AV.pure, AV.pureL, natA_pure, natI_pure, natS_pure]) (by simp [AV.pure, AV.pureL, natA_pure, natI_pure, natS_pure]) ?_
        simp (disch := omega) only [go_sem, ↓k_cond, ↓x_idx, ↓k_block, Nat.reduceEqDiff, Nat.reduceBEq, ↓reduceIte, reduceCtorEq, h0, h1]
        refine x_callP (hdiv) ci_div (by simp [evA, upd_app, ofVal, ofCell, natI, h0, h1]) (by simp [AV.pure, AV.pureL, natA_pure, natI_pure, natS_pure]) (by simp [AV.pure, AV.pureL, natA_pure, natI_pure, natS_pure]) ?_
        simp (disch := omega) only [go_sem, ↓k_cond, ↓x_idx, ↓k_block, Nat.reduceEqDiff, Nat.reduceBEq, ↓reduceIte, reduceCtorEq, h0, h1]
        exact go2 _ (by simp [upd_app, natI] <;> omega) (by simp [upd_app] <;> omega)
      · rw [if_neg hys] at hsy
        refine x_callP (hsy) ci_small (by simp [evA, upd_app, ofVal, ofCell, natI, h1]) (by simp [AV.pure, AV.pureL, natA_pure, natI_pure, natS_pure]) (by simp [AV.pure, AV.pureL, natA_pure, natI_pure, natS_pure]) ?_
        simp (disch := omega) only [go_sem, ↓k_cond, ↓x_idx, ↓k_block, Nat.reduceEqDiff, Nat.reduceBEq, ↓reduceIte, reduceCtorEq, h0, h1]
        refine x_callP (hdiv) ci_div (by simp [evA, upd_app, ofVal, ofCell, natI, h0, h1]) (by simp [AV.pure, AV.pureL, natA_pure, natI_pure, natS_pure]) (by simp [AV.pure, AV.pureL, natA_pure, natI_pure, natS_pure]) ?_
        simp (disch := omega) only [go_sem, ↓k_cond, ↓x_idx, ↓k_block, Nat.reduceEqDiff, Nat.reduceBEq, ↓reduceIte, reduceCtorEq, h0, h1]
        exact go2 _ (by simp [upd_app, natI] <;> omega) (by simp [upd_app] <;> omega)
end Go.Proofs.YtmlbjakkojbdlaaGreatDoor
