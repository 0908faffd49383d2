/- Part 8 of 11 of the proof that stands in YtogabejpbdmnnaaDoorM11. -/
import Derived.Test.YtogabejpbdmnnaaDoorM7

set_option linter.unusedVariables false
set_option linter.unusedSimpArgs false

/- The program reads naturals. -/
set_option linter.unusedSimpArgs false
set_option linter.unusedVariables false
namespace Go.Proofs.YtogabejpbdmnnaaDoor
open Go

theorem ci_readNat : callable Tryd.prog 24 = true := by kernel_rfl
/-- A number of at least 0 in decimal without zeros ahead, of at most 200 digits. -/
def tokD (s : List UInt8) : Bool := decide (1 ≤ s.length) && decide (s.length ≤ 200) && (decide (s.length = 1) || !(s.head? == some 48)) && s.all isDig
theorem tok_len {s : List UInt8} (h : tokD s = true) : 1 ≤ s.length ∧ s.length ≤ 200 ∧ ∀ c ∈ s, isDig c = true := by
  simp only [tokD, Bool.and_eq_true, decide_eq_true_eq, List.all_eq_true] at h
  exact ⟨h.1.1.1, h.1.1.2, h.2⟩
theorem dval_enc {B : Nat} (hB : 10 ≤ B) {s : List UInt8} (h : ∀ c ∈ s, isDig c = true) : (enc B (dval s)).length ≤ s.length :=
  enc_len_le (by omega) (Nat.lt_of_lt_of_le (dval_lt h) (Nat.pow_le_pow_left hB _))
theorem beqU8 {c : UInt8} {n : Nat} (h : n < 256) : ((c.toNat : Int) == (n : Int)) = (c == n.toUInt8) := by
  rw [Bool.eq_iff_iff]
  simp only [beq_iff_eq]
  constructor
  · intro e
    have e' : c.toNat = n := by omega
    exact UInt8.toNat.inj (by rw [e']; simp; omega)
  · intro e
    rw [e]; simp; omega
theorem mul_ten {k : Nat} (h : k ≤ 18) : 10 ^ k ≤ 1000000000000000000 := Nat.le_trans (Nat.pow_le_pow_right (by omega) h) (by decide)

/-- What is read. -/
def readNatV (s : List UInt8) : AV := if tokD s = true then .tup [natI (dval s), .bool true] else .tup [.nil, .bool false]
set_option maxHeartbeats 2000000 in
theorem i_readNat (s : List UInt8) (hs : s.length < 9223372036854775808) : CallOk Tryd.prog 24 [.str s] (readNatV s) [] := by
  have hbad : ∀ (h : tokD s = false), readNatV s = .tup [.nil, .bool false] := fun h => by rw [readNatV, h]; rfl
  by_cases h0 : s = []
  · rw [hbad (by simp [h0, tokD])]
    subst h0
    (refine callOk_of_wpc (W := fun _ => false) false hm' Tryd.func24 rfl (by kernel_rfl) (Nat.le_of_ble_eq_true rfl) (go_start ?_); generalize hQ : Post Tryd.prog Tryd.f24 _ _ _ _ _ = Q; simp only [stIn, matL, matA, st00])
    have e : (([] : List UInt8) == []) = true := rfl
    simp (disch := omega) only [go_sem, ↓k_cond, ↓x_idx, ↓k_block, Nat.reduceEqDiff, ↓reduceIte, reduceCtorEq, if_pos, if_neg, decide_eq_true, decide_eq_false, beqT, beqF, bneT, bneF, wrapI, wrapU32, wrapU64, wrapU8, nc_add, nc_addL, nc_addR, nc_mul, nc_mulL, nc_mulR, nc_div, nc_divL, nc_mod, nc_modL, nc_1, nc_sub1, natA_at, natA_put, eatH_one, Int.toNat_natCast, Option.map_some, shr32, shl32, List.getD_cons_zero, List.getD_cons_succ, List.length_set, List.set_cons_zero, List.set_cons_succ, e]
    rw [← hQ]
    exact post_two (.inl rfl) rfl (by first | (simp only [upd_app, ↓reduceIte, Nat.reduceEqDiff]; done) | (simp [upd_app]; done) | (simp [upd_app]; omega)) (by first | (simp only [upd_app, ↓reduceIte, Nat.reduceEqDiff]; done) | (simp [upd_app]; done) | (simp [upd_app]; omega)) rfl rfl
  have e0 : (s == ([] : List UInt8)) = false := by simpa using h0
  have hl0 : 0 < s.length := List.length_pos_iff.2 h0
  by_cases h200 : 200 < s.length
  · rw [hbad (by simp [tokD]; omega)]
    (refine callOk_of_wpc (W := fun _ => false) false hm' Tryd.func24 rfl (by kernel_rfl) (Nat.le_of_ble_eq_true rfl) (go_start ?_); generalize hQ : Post Tryd.prog Tryd.f24 _ _ _ _ _ = Q; simp only [stIn, matL, matA, st00])
    simp (disch := omega) only [go_sem, ↓k_cond, ↓x_idx, ↓k_block, Nat.reduceEqDiff, ↓reduceIte, reduceCtorEq, if_pos, if_neg, decide_eq_true, decide_eq_false, beqT, beqF, bneT, bneF, wrapI, wrapU32, wrapU64, wrapU8, nc_add, nc_addL, nc_addR, nc_mul, nc_mulL, nc_mulR, nc_div, nc_divL, nc_mod, nc_modL, nc_1, nc_sub1, natA_at, natA_put, eatH_one, Int.toNat_natCast, Option.map_some, shr32, shl32, List.getD_cons_zero, List.getD_cons_succ, List.length_set, List.set_cons_zero, List.set_cons_succ, e0]
    rw [← hQ]
    exact post_two (.inl rfl) rfl (by first | (simp only [upd_app, ↓reduceIte, Nat.reduceEqDiff]; done) | (simp [upd_app]; done) | (simp [upd_app]; omega)) (by first | (simp only [upd_app, ↓reduceIte, Nat.reduceEqDiff]; done) | (simp [upd_app]; done) | (simp [upd_app]; omega)) rfl rfl
  obtain ⟨c0, hc0⟩ := get_some (xs := s) (i := 0) hl0
  have hc0' : s[Int.toNat 0]? = some c0 := hc0
  have hhead : s.head? = some c0 := by rw [List.head?_eq_getElem?]; exact hc0
  by_cases hz : c0.toNat = 48 ∧ 1 < s.length
  · obtain ⟨hz1, hz2⟩ := hz
    have hc48 : c0 = 48 := UInt8.toNat.inj (by rw [hz1]; rfl)
    rw [hbad (by simp [tokD, hhead, hc48]; omega)]
    (refine callOk_of_wpc (W := fun _ => false) false hm' Tryd.func24 rfl (by kernel_rfl) (Nat.le_of_ble_eq_true rfl) (go_start ?_); generalize hQ : Post Tryd.prog Tryd.f24 _ _ _ _ _ = Q; simp only [stIn, matL, matA, st00])
    simp (disch := omega) only [go_sem, ↓k_cond, ↓x_idx, ↓k_block, Nat.reduceEqDiff, ↓reduceIte, reduceCtorEq, if_pos, if_neg, decide_eq_true, decide_eq_false, beqT, beqF, bneT, bneF, wrapI, wrapU32, wrapU64, wrapU8, nc_add, nc_addL, nc_addR, nc_mul, nc_mulL, nc_mulR, nc_div, nc_divL, nc_mod, nc_modL, nc_1, nc_sub1, natA_at, natA_put, eatH_one, Int.toNat_natCast, Option.map_some, shr32, shl32, List.getD_cons_zero, List.getD_cons_succ, List.length_set, List.set_cons_zero, List.set_cons_succ, e0, hc0', hz1]
    rw [← hQ]
    exact post_two (.inl rfl) rfl (by first | (simp only [upd_app, ↓reduceIte, Nat.reduceEqDiff]; done) | (simp [upd_app]; done) | (simp [upd_app]; omega)) (by first | (simp only [upd_app, ↓reduceIte, Nat.reduceEqDiff]; done) | (simp [upd_app]; done) | (simp [upd_app]; omega)) rfl rfl
  have htok : tokD s = s.all isDig := by
    have h1 : (decide (s.length = 1) || !(s.head? == some 48)) = true := by
      rw [hhead]
      by_cases hh : s.length = 1
      · simp [hh]
      · have : c0 ≠ 48 := fun e => hz ⟨by rw [e]; rfl, by omega⟩
        simp [this]
    simp [tokD, h1]; intro _; omega
  have hls : s.length ≤ 200 := by omega
  have nat0 : natI 0 = .sl 67 [] [] false := by simp [natI, enc_zero, natA]
  have htrue : ∀ (h : s.all isDig = true), readNatV s = .tup [natI (dval s), .bool true] := fun h => by rw [readNatV, htok, h]; rfl
  (refine callOk_of_wpc (W := fun _ => false) false hm' Tryd.func24 rfl (by kernel_rfl) (Nat.le_of_ble_eq_true rfl) (go_start ?_); generalize hQ : Post Tryd.prog Tryd.f24 _ _ _ _ _ = Q; simp only [stIn, matL, matA, st00])
  obtain ⟨R1, hR1⟩ : ∃ R : Nat → St → Prop, R = fun i st => st.fr 0 = .str s ∧ st.fr 4 = .sl 67 [] [] true ∧ st.fr 29 = .int .i64 s.length ∧ st.fr 30 = .int .i64 i ∧ i ≤ s.length ∧ ∀ c ∈ s.take i, isDig c = true := ⟨_, rfl⟩
  obtain ⟨R2, hR2⟩ : ∃ R : List UInt8 × List UInt8 → St → Prop, R = fun p st => st.fr 0 = .str p.2 ∧ p.1 ++ p.2 = s ∧ (st.fr 4 = natI (dval p.1) ∨ p.1 = [] ∧ st.fr 4 = .sl 67 [] [] true) ∧ ∀ c ∈ s, isDig c = true := ⟨_, rfl⟩
  rcases Nat.decEq c0.toNat 48 with h48 | h48
  · simp (disch := omega) only [go_sem, ↓k_cond, ↓x_idx, ↓k_block, Nat.reduceEqDiff, ↓reduceIte, reduceCtorEq, if_pos, if_neg, decide_eq_true, decide_eq_false, beqT, beqF, bneT, bneF, wrapI, wrapU32, wrapU64, wrapU8, nc_add, nc_addL, nc_addR, nc_mul, nc_mulL, nc_mulR, nc_div, nc_divL, nc_mod, nc_modL, nc_1, nc_sub1, natA_at, natA_put, eatH_one, Int.toNat_natCast, Option.map_some, shr32, shl32, List.getD_cons_zero, List.getD_cons_succ, List.length_set, List.set_cons_zero, List.set_cons_succ, e0, hc0']
    refine k_loop R1 (fun i => s.length - i) 0 (by rw [hR1]; exact ⟨(by first | (simp only [upd_app, ↓reduceIte, Nat.reduceEqDiff]; done) | (simp [upd_app]; done) | (simp [upd_app]; omega)), (by first | (simp only [upd_app, ↓reduceIte, Nat.reduceEqDiff]; done) | (simp [upd_app]; done) | (simp [upd_app]; omega)), (by first | (simp only [upd_app, ↓reduceIte, Nat.reduceEqDiff]; done) | (simp [upd_app]; done) | (simp [upd_app]; omega)), (by first | (simp only [upd_app, ↓reduceIte, Nat.reduceEqDiff]; done) | (simp [upd_app]; done) | (simp [upd_app]; omega)), by simp, by simp⟩) ?_
    rintro i ⟨fr, h, nx⟩ hst J hJ
    rw [hR1] at hst
    obtain ⟨g0, g4, g29, g30, hi, hdg⟩ := hst
    simp only at g0 g4 g29 g30
    by_cases hin : i < s.length
    · obtain ⟨c, hc⟩ := get_some (xs := s) (i := i) hin
      have hcb := c.toNat_lt
      cases hd : isDig c with
      | false =>
        have hnd : c.toNat < 48 ∨ 57 < c.toNat := by simp [isDig] at hd; omega
        rw [hbad (by rw [htok]; simp; exact ⟨c, List.mem_of_getElem? hc, hd⟩)] at hQ
        rcases hnd with hnd | hnd
        · simp (disch := omega) only [go_sem, ↓k_cond, ↓x_idx, ↓k_block, Nat.reduceEqDiff, ↓reduceIte, reduceCtorEq, if_pos, if_neg, decide_eq_true, decide_eq_false, beqT, beqF, bneT, bneF, wrapI, wrapU32, wrapU64, wrapU8, nc_add, nc_addL, nc_addR, nc_mul, nc_mulL, nc_mulR, nc_div, nc_divL, nc_mod, nc_modL, nc_1, nc_sub1, natA_at, natA_put, eatH_one, Int.toNat_natCast, Option.map_some, shr32, shl32, List.getD_cons_zero, List.getD_cons_succ, List.length_set, List.set_cons_zero, List.set_cons_succ, g0, g4, g29, g30, hc]
          rw [← hQ]
          exact post_two (.inl rfl) rfl (by first | (simp only [upd_app, ↓reduceIte, Nat.reduceEqDiff]; done) | (simp [upd_app]; done) | (simp [upd_app]; omega)) (by first | (simp only [upd_app, ↓reduceIte, Nat.reduceEqDiff]; done) | (simp [upd_app]; done) | (simp [upd_app]; omega)) rfl rfl
        · simp (disch := omega) only [go_sem, ↓k_cond, ↓x_idx, ↓k_block, Nat.reduceEqDiff, ↓reduceIte, reduceCtorEq, if_pos, if_neg, decide_eq_true, decide_eq_false, beqT, beqF, bneT, bneF, wrapI, wrapU32, wrapU64, wrapU8, nc_add, nc_addL, nc_addR, nc_mul, nc_mulL, nc_mulR, nc_div, nc_divL, nc_mod, nc_modL, nc_1, nc_sub1, natA_at, natA_put, eatH_one, Int.toNat_natCast, Option.map_some, shr32, shl32, List.getD_cons_zero, List.getD_cons_succ, List.length_set, List.set_cons_zero, List.set_cons_succ, g0, g4, g29, g30, hc]
          rw [← hQ]
          exact post_two (.inl rfl) rfl (by first | (simp only [upd_app, ↓reduceIte, Nat.reduceEqDiff]; done) | (simp [upd_app]; done) | (simp [upd_app]; omega)) (by first | (simp only [upd_app, ↓reduceIte, Nat.reduceEqDiff]; done) | (simp [upd_app]; done) | (simp [upd_app]; omega)) rfl rfl
      | true =>
        have hnd : 48 ≤ c.toNat ∧ c.toNat ≤ 57 := by simpa [isDig] using hd
        simp (disch := omega) only [go_sem, ↓k_cond, ↓x_idx, ↓k_block, Nat.reduceEqDiff, ↓reduceIte, reduceCtorEq, if_pos, if_neg, decide_eq_true, decide_eq_false, beqT, beqF, bneT, bneF, wrapI, wrapU32, wrapU64, wrapU8, nc_add, nc_addL, nc_addR, nc_mul, nc_mulL, nc_mulR, nc_div, nc_divL, nc_mod, nc_modL, nc_1, nc_sub1, natA_at, natA_put, eatH_one, Int.toNat_natCast, Option.map_some, shr32, shl32, List.getD_cons_zero, List.getD_cons_succ, List.length_set, List.set_cons_zero, List.set_cons_succ, g0, g4, g29, g30, hc]
        refine hJ (i + 1) _ ?_ (by omega)
        rw [hR1]
        refine ⟨(by first | (simp only [upd_app, ↓reduceIte, Nat.reduceEqDiff, g0]; done) | (simp [upd_app, g0]; done) | (simp [upd_app, g0]; omega)), (by first | (simp only [upd_app, ↓reduceIte, Nat.reduceEqDiff, g4]; done) | (simp [upd_app, g4]; done) | (simp [upd_app, g4]; omega)), (by first | (simp only [upd_app, ↓reduceIte, Nat.reduceEqDiff, g29]; done) | (simp [upd_app, g29]; done) | (simp [upd_app, g29]; omega)), (by first | (simp only [upd_app, ↓reduceIte, Nat.reduceEqDiff]; done) | (simp [upd_app]; done) | (simp [upd_app]; omega)), hin, fun d hd' => ?_⟩
        rw [List.take_add_one, hc] at hd'
        rcases List.mem_append.1 hd' with h' | h'
        · exact hdg d h'
        · simp at h'; rw [h']; exact hd
    · rw [List.take_of_length_le (by omega)] at hdg
      clear hJ
      simp (disch := omega) only [go_sem, ↓k_cond, ↓x_idx, ↓k_block, Nat.reduceEqDiff, ↓reduceIte, reduceCtorEq, if_pos, if_neg, decide_eq_true, decide_eq_false, beqT, beqF, bneT, bneF, wrapI, wrapU32, wrapU64, wrapU8, nc_add, nc_addL, nc_addR, nc_mul, nc_mulL, nc_mulR, nc_div, nc_divL, nc_mod, nc_modL, nc_1, nc_sub1, natA_at, natA_put, eatH_one, Int.toNat_natCast, Option.map_some, shr32, shl32, List.getD_cons_zero, List.getD_cons_succ, List.length_set, List.set_cons_zero, List.set_cons_succ, g0, g4, g29, g30]
      refine k_loop R2 (fun p => p.2.length) ([], s) (by rw [hR2]; exact ⟨(by first | (simp only [upd_app, ↓reduceIte, Nat.reduceEqDiff, g0]; done) | (simp [upd_app, g0]; done) | (simp [upd_app, g0]; omega)), by simp, .inr ⟨rfl, (by first | (simp only [upd_app, ↓reduceIte, Nat.reduceEqDiff, g4]; done) | (simp [upd_app, g4]; done) | (simp [upd_app, g4]; omega))⟩, hdg⟩) ?_
      clear g0 g4 g29 g30 hi hin
      rintro ⟨pre, rest⟩ ⟨fr, h, nx⟩ hst J hJ
      rw [hR2] at hst
      obtain ⟨g0, hps, g4, _⟩ := hst
      simp only at g0 hps g4
      have hpd : ∀ c ∈ pre, isDig c = true := fun c hc => hdg c (by rw [← hps]; simp [hc])
      have hrd : ∀ c ∈ rest, isDig c = true := fun c hc => hdg c (by rw [← hps]; simp [hc])
      have hlen : pre.length + rest.length = s.length := by rw [← hps]; simp
      rw [htrue (by simpa using hdg)] at hQ
      by_cases hr0 : rest = []
      · subst hr0
        have er : (([] : List UInt8) == []) = true := rfl
        rw [List.append_nil] at hps
        subst hps
        rcases g4 with g4 | ⟨hp, _⟩
        · simp (disch := omega) only [go_sem, ↓k_cond, ↓x_idx, ↓k_block, Nat.reduceEqDiff, ↓reduceIte, reduceCtorEq, if_pos, if_neg, decide_eq_true, decide_eq_false, beqT, beqF, bneT, bneF, wrapI, wrapU32, wrapU64, wrapU8, nc_add, nc_addL, nc_addR, nc_mul, nc_mulL, nc_mulR, nc_div, nc_divL, nc_mod, nc_modL, nc_1, nc_sub1, natA_at, natA_put, eatH_one, Int.toNat_natCast, Option.map_some, shr32, shl32, List.getD_cons_zero, List.getD_cons_succ, List.length_set, List.set_cons_zero, List.set_cons_succ, g0, er, g4]
          rw [← hQ]
          exact post_two (.inl rfl) rfl (by first | (simp only [upd_app, ↓reduceIte, Nat.reduceEqDiff, g4]; done) | (simp [upd_app, g4]; done) | (simp [upd_app, g4]; omega)) (by first | (simp only [upd_app, ↓reduceIte, Nat.reduceEqDiff]; done) | (simp [upd_app]; done) | (simp [upd_app]; omega)) (by simp) rfl
        · exact absurd hp h0
      · have er : (rest == []) = false := by simpa using hr0
        have hrl : 0 < rest.length := List.length_pos_iff.2 hr0
        obtain ⟨X, hX⟩ : ∃ X, fr 4 = X := ⟨_, rfl⟩
        rw [hX] at g4
        have hXp : X.pure = true := by rcases g4 with rfl | ⟨_, rfl⟩ <;> simp [AV.pure, AV.pureL]
        obtain ⟨k, hk, hk0, hk9⟩ : ∃ k, (if rest.length % 9 = 0 then 9 else rest.length % 9) = k ∧ 0 < k ∧ k ≤ 9 := ⟨_, rfl, by split <;> omega, by split <;> omega⟩
        have hkl : k ≤ rest.length := by split at hk <;> omega
        have hcd : ∀ c ∈ rest.take k, isDig c = true := fun c hc => hrd c (List.mem_of_mem_take hc)
        have hcl : (rest.take k).length = k := by simp; omega
        have hPU := g_ParseUint (rest.take k) hcd (fun e => by rw [e] at hcl; simp at hcl; omega) (by omega)
        have hten := mul_ten (show k ≤ 18 by omega)
        have hcv : dval (rest.take k) < 1000000000000000000 := by have := dval_lt hcd; rw [hcl] at this; omega
        have hpe : (enc B32 (dval pre)).length ≤ 200 := Nat.le_trans (dval_enc (by decide) hpd) (by omega)
        have hte : (enc B32 (10 ^ k)).length ≤ 3 := enc_len_le B32_gt (by simp only [B32]; omega)
        have hce : (enc B32 (dval (rest.take k))).length ≤ 3 := enc_len_le B32_gt (by simp only [B32]; omega)
        have hmul : CallOk Tryd.prog 33 [X, natI (10 ^ k)] (natI (dval pre * 10 ^ k)) [] := by
          rcases g4 with rfl | ⟨rfl, rfl⟩
          · exact i_mul _ _ (by omega) (by omega)
          · have := i_mul 0 (10 ^ k) (by simp [enc_zero]) (by omega)
            rw [show dval [] = 0 from rfl]
            rw [nat0] at this
            exact this.args (SubL.cons sub_sl (SubL.refl _))
        have hnew : dval pre * 10 ^ k + dval (rest.take k) = dval (pre ++ rest.take k) := by rw [dval_append, hcl]
        have hpm : (enc B32 (dval pre * 10 ^ k)).length ≤ 1099511627776 := by
          have : (enc B32 (dval pre * 10 ^ k)).length ≤ (enc B32 (dval (pre ++ rest.take k))).length := enc_len_mono B32_gt (by rw [← hnew]; omega)
          have h2 := dval_enc (B := B32) (by decide) (s := pre ++ rest.take k) (fun c hc => by rcases List.mem_append.1 hc with h | h; exact hpd c h; exact hcd c h)
          simp only [List.length_append] at h2; omega
        have hadd := i_addTo (dval pre * 10 ^ k) (dval (rest.take k)) hpm (by omega)
        rw [hnew] at hadd
        have hfin : ∀ st : St, st.fr 0 = .str (rest.drop k) → st.fr 4 = natI (dval (pre ++ rest.take k)) → J st := fun st r0 r4 => hJ (pre ++ rest.take k, rest.drop k) st (by
          rw [hR2]; exact ⟨r0, by simp [hps], .inl r4, hdg⟩) (by simp; omega)
        clear hJ hR1 hR2 hbad htrue hQ hps
        simp (disch := omega) only [go_sem, ↓k_cond, ↓x_idx, Nat.reduceEqDiff, ↓reduceIte, reduceCtorEq, if_pos, if_neg, decide_eq_true, decide_eq_false, beqT, beqF, bneT, bneF, wrapI, wrapU32, wrapU64, wrapU8, nc_add, nc_addL, nc_addR, nc_mul, nc_mulL, nc_mulR, nc_div, nc_divL, nc_mod, nc_modL, nc_1, nc_sub1, natA_at, natA_put, eatH_one, Int.toNat_natCast, Option.map_some, shr32, shl32, List.getD_cons_zero, List.getD_cons_succ, List.length_set, List.set_cons_zero, List.set_cons_succ, g0, er, hX]
        rw [k_block]
        obtain ⟨F, hF⟩ : ∃ F : St → Prop, F = fun st => st.fr 0 = .str rest ∧ st.fr 4 = X ∧ st.fr 6 = .int .i64 k := ⟨_, rfl⟩
        simp (disch := omega) only [go_sem, ↓x_idx, ↓k_block, Nat.reduceEqDiff, ↓reduceIte, reduceCtorEq, if_pos, if_neg, decide_eq_true, decide_eq_false, beqT, beqF, bneT, bneF, wrapI, wrapU32, wrapU64, wrapU8, nc_add, nc_addL, nc_addR, nc_mul, nc_mulL, nc_mulR, nc_div, nc_divL, nc_mod, nc_modL, nc_1, nc_sub1, natA_at, natA_put, eatH_one, Int.toNat_natCast, Option.map_some, shr32, shl32, List.getD_cons_zero, List.getD_cons_succ, List.length_set, List.set_cons_zero, List.set_cons_succ, g0, hX]
        refine k_join F ?_ ?_
        · by_cases hk9' : rest.length % 9 = 0
          · rw [if_pos hk9'] at hk
            simp (disch := omega) only [go_sem, ↓k_cond, ↓x_idx, ↓k_block, Nat.reduceEqDiff, ↓reduceIte, reduceCtorEq, if_pos, if_neg, decide_eq_true, decide_eq_false, beqT, beqF, bneT, bneF, wrapI, wrapU32, wrapU64, wrapU8, nc_add, nc_addL, nc_addR, nc_mul, nc_mulL, nc_mulR, nc_div, nc_divL, nc_mod, nc_modL, nc_1, nc_sub1, natA_at, natA_put, eatH_one, Int.toNat_natCast, Option.map_some, shr32, shl32, List.getD_cons_zero, List.getD_cons_succ, List.length_set, List.set_cons_zero, List.set_cons_succ, g0, hX, hk9']
            rw [hF]; exact ⟨(by first | (simp only [upd_app, ↓reduceIte, Nat.reduceEqDiff, g0]; done) | (simp [upd_app, g0]; done) | (simp [upd_app, g0]; omega)), (by first | (simp only [upd_app, ↓reduceIte, Nat.reduceEqDiff, hX]; done) | (simp [upd_app, hX]; done) | (simp [upd_app, hX]; omega)), (by first | (simp only [upd_app, ↓reduceIte, Nat.reduceEqDiff, hk]; done) | (simp [upd_app, hk]; done) | (simp [upd_app, hk]; omega))⟩
          · rw [if_neg hk9'] at hk
            simp (disch := omega) only [go_sem, ↓k_cond, ↓x_idx, ↓k_block, Nat.reduceEqDiff, ↓reduceIte, reduceCtorEq, if_pos, if_neg, decide_eq_true, decide_eq_false, beqT, beqF, bneT, bneF, wrapI, wrapU32, wrapU64, wrapU8, nc_add, nc_addL, nc_addR, nc_mul, nc_mulL, nc_mulR, nc_div, nc_divL, nc_mod, nc_modL, nc_1, nc_sub1, natA_at, natA_put, eatH_one, Int.toNat_natCast, Option.map_some, shr32, shl32, List.getD_cons_zero, List.getD_cons_succ, List.length_set, List.set_cons_zero, List.set_cons_succ, g0, hX, hk]
            rw [hF]; exact ⟨(by first | (simp only [upd_app, ↓reduceIte, Nat.reduceEqDiff, g0]; done) | (simp [upd_app, g0]; done) | (simp [upd_app, g0]; omega)), (by first | (simp only [upd_app, ↓reduceIte, Nat.reduceEqDiff, hX]; done) | (simp [upd_app, hX]; done) | (simp [upd_app, hX]; omega)), (by first | (simp only [upd_app, ↓reduceIte, Nat.reduceEqDiff, hk]; done) | (simp [upd_app, hk]; done) | (simp [upd_app, hk]; omega))⟩
        clear hk
        rintro ⟨fr, h, nx⟩ hst
        rw [hF] at hst
        obtain ⟨g0, g4', g6⟩ := hst
        simp only at g0 g4' g6
        simp (disch := omega) only [go_sem, ↓k_cond, ↓x_idx, ↓k_block, Nat.reduceEqDiff, ↓reduceIte, reduceCtorEq, if_pos, if_neg, decide_eq_true, decide_eq_false, beqT, beqF, bneT, bneF, wrapI, wrapU32, wrapU64, wrapU8, nc_add, nc_addL, nc_addR, nc_mul, nc_mulL, nc_mulR, nc_div, nc_divL, nc_mod, nc_modL, nc_1, nc_sub1, natA_at, natA_put, eatH_one, Int.toNat_natCast, Option.map_some, shr32, shl32, List.getD_cons_zero, List.getD_cons_succ, List.length_set, List.set_cons_zero, List.set_cons_succ, g0, g4', g6]
        refine x_callP hPU c_ParseUint (by simp [evA, upd_app, ofVal, ofCell]) (by simp [AV.pure, AV.pureL]) (by simp [AV.pure, AV.pureL]) ?_
        simp (disch := omega) only [go_sem, ↓k_cond, ↓x_idx, ↓k_block, Nat.reduceEqDiff, ↓reduceIte, reduceCtorEq, if_pos, if_neg, decide_eq_true, decide_eq_false, beqT, beqF, bneT, bneF, wrapI, wrapU32, wrapU64, wrapU8, nc_add, nc_addL, nc_addR, nc_mul, nc_mulL, nc_mulR, nc_div, nc_divL, nc_mod, nc_modL, nc_1, nc_sub1, natA_at, natA_put, eatH_one, Int.toNat_natCast, Option.map_some, shr32, shl32, List.getD_cons_zero, List.getD_cons_succ, List.length_set, List.set_cons_zero, List.set_cons_succ, g0, g4', g6]
        refine k_loop (fun (i : Nat) st => st.fr 0 = .str rest ∧ st.fr 4 = X ∧ st.fr 6 = .int .i64 k ∧ st.fr 7 = .int .u64 (dval (rest.take k)) ∧ st.fr 9 = .int .u64 (10 ^ i : Nat) ∧ st.fr 58 = .int .i64 k ∧ st.fr 59 = .int .i64 i ∧ i ≤ k) (fun i => k - i) 0
          ⟨(by first | (simp only [upd_app, ↓reduceIte, Nat.reduceEqDiff, g0]; done) | (simp [upd_app, g0]; done) | (simp [upd_app, g0]; omega)), (by first | (simp only [upd_app, ↓reduceIte, Nat.reduceEqDiff, g4']; done) | (simp [upd_app, g4']; done) | (simp [upd_app, g4']; omega)), (by first | (simp only [upd_app, ↓reduceIte, Nat.reduceEqDiff, g6]; done) | (simp [upd_app, g6]; done) | (simp [upd_app, g6]; omega)), (by first | (simp only [upd_app, ↓reduceIte, Nat.reduceEqDiff]; done) | (simp [upd_app]; done) | (simp [upd_app]; omega)), (by first | (simp only [upd_app, ↓reduceIte, Nat.reduceEqDiff]; done) | (simp [upd_app]; done) | (simp [upd_app]; omega)), (by first | (simp only [upd_app, ↓reduceIte, Nat.reduceEqDiff, g6]; done) | (simp [upd_app, g6]; done) | (simp [upd_app, g6]; omega)), (by first | (simp only [upd_app, ↓reduceIte, Nat.reduceEqDiff]; done) | (simp [upd_app]; done) | (simp [upd_app]; omega)), by omega⟩ ?_
        rintro i ⟨fr, h, nx⟩ ⟨g0, g4', g6, g7, g9, g58, g59, hi⟩ J2 hJ2
        simp only at g0 g4' g6 g7 g9 g58 g59
        by_cases hik : i < k
        · have h10 := mul_ten (show i ≤ 18 by omega)
          have hs10 : 10 ^ i * 10 = 10 ^ (i + 1) := rfl
          obtain ⟨z, hz'⟩ : ∃ z, 10 ^ i = z := ⟨_, rfl⟩
          rw [hz'] at h10 hs10 g9
          simp (disch := omega) only [go_sem, ↓k_cond, ↓x_idx, ↓k_block, Nat.reduceEqDiff, ↓reduceIte, reduceCtorEq, if_pos, if_neg, decide_eq_true, decide_eq_false, beqT, beqF, bneT, bneF, wrapI, wrapU32, wrapU64, wrapU8, nc_add, nc_addL, nc_addR, nc_mul, nc_mulL, nc_mulR, nc_div, nc_divL, nc_mod, nc_modL, nc_1, nc_sub1, natA_at, natA_put, eatH_one, Int.toNat_natCast, Option.map_some, shr32, shl32, List.getD_cons_zero, List.getD_cons_succ, List.length_set, List.set_cons_zero, List.set_cons_succ, g0, g4', g6, g7, g9, g58, g59]
          exact hJ2 (i + 1) _ ⟨(by first | (simp only [upd_app, ↓reduceIte, Nat.reduceEqDiff, g0]; done) | (simp [upd_app, g0]; done) | (simp [upd_app, g0]; omega)), (by first | (simp only [upd_app, ↓reduceIte, Nat.reduceEqDiff, g4']; done) | (simp [upd_app, g4']; done) | (simp [upd_app, g4']; omega)), (by first | (simp only [upd_app, ↓reduceIte, Nat.reduceEqDiff, g6]; done) | (simp [upd_app, g6]; done) | (simp [upd_app, g6]; omega)), (by first | (simp only [upd_app, ↓reduceIte, Nat.reduceEqDiff, g7]; done) | (simp [upd_app, g7]; done) | (simp [upd_app, g7]; omega)), (by first | (simp only [upd_app, ↓reduceIte, Nat.reduceEqDiff, hs10]; done) | (simp [upd_app, hs10]; done) | (simp [upd_app, hs10]; omega)), (by first | (simp only [upd_app, ↓reduceIte, Nat.reduceEqDiff, g58]; done) | (simp [upd_app, g58]; done) | (simp [upd_app, g58]; omega)), (by first | (simp only [upd_app, ↓reduceIte, Nat.reduceEqDiff]; done) | (simp [upd_app]; done) | (simp [upd_app]; omega)), hik⟩ (by omega)
        · obtain rfl : i = k := by omega
          simp (disch := omega) only [go_sem, ↓k_cond, ↓x_idx, ↓k_block, Nat.reduceEqDiff, ↓reduceIte, reduceCtorEq, if_pos, if_neg, decide_eq_true, decide_eq_false, beqT, beqF, bneT, bneF, wrapI, wrapU32, wrapU64, wrapU8, nc_add, nc_addL, nc_addR, nc_mul, nc_mulL, nc_mulR, nc_div, nc_divL, nc_mod, nc_modL, nc_1, nc_sub1, natA_at, natA_put, eatH_one, Int.toNat_natCast, Option.map_some, shr32, shl32, List.getD_cons_zero, List.getD_cons_succ, List.length_set, List.set_cons_zero, List.set_cons_succ, g0, g4', g6, g7, g9, g58, g59]
          refine x_callP (i_natOf (10 ^ i) (by omega)) ci_natOf (by simp [evA, upd_app, ofVal, ofCell, g9]) (by simp [AV.pure, AV.pureL, natA_pure, natI_pure, natS_pure]) (by simp [AV.pure, AV.pureL, natA_pure, natI_pure, natS_pure]) ?_
          refine x_callP hmul ci_mul (by simp [evA, upd_app, g4']) (by simp [AV.pureL, hXp]) (by simp) ?_
          simp (disch := omega) only [go_sem, ↓k_cond, ↓x_idx, ↓k_block, Nat.reduceEqDiff, ↓reduceIte, reduceCtorEq, if_pos, if_neg, decide_eq_true, decide_eq_false, beqT, beqF, bneT, bneF, wrapI, wrapU32, wrapU64, wrapU8, nc_add, nc_addL, nc_addR, nc_mul, nc_mulL, nc_mulR, nc_div, nc_divL, nc_mod, nc_modL, nc_1, nc_sub1, natA_at, natA_put, eatH_one, Int.toNat_natCast, Option.map_some, shr32, shl32, List.getD_cons_zero, List.getD_cons_succ, List.length_set, List.set_cons_zero, List.set_cons_succ, g7]
          refine x_callP (i_natOf (dval (rest.take i)) (by omega)) ci_natOf (by simp [evA, upd_app, ofVal, ofCell, g7]) (by simp [AV.pure, AV.pureL, natA_pure, natI_pure, natS_pure]) (by simp [AV.pure, AV.pureL, natA_pure, natI_pure, natS_pure]) ?_
          refine x_callP (hadd) ci_add (by simp [evA, upd_app, ofVal, ofCell]) (by simp [AV.pure, AV.pureL, natA_pure, natI_pure, natS_pure]) (by simp [AV.pure, AV.pureL, natA_pure, natI_pure, natS_pure]) ?_
          simp (disch := omega) only [go_sem, ↓k_cond, ↓x_idx, ↓k_block, Nat.reduceEqDiff, ↓reduceIte, reduceCtorEq, if_pos, if_neg, decide_eq_true, decide_eq_false, beqT, beqF, bneT, bneF, wrapI, wrapU32, wrapU64, wrapU8, nc_add, nc_addL, nc_addR, nc_mul, nc_mulL, nc_mulR, nc_div, nc_divL, nc_mod, nc_modL, nc_1, nc_sub1, natA_at, natA_put, eatH_one, Int.toNat_natCast, Option.map_some, shr32, shl32, List.getD_cons_zero, List.getD_cons_succ, List.length_set, List.set_cons_zero, List.set_cons_succ, g0, g6, List.take_length]
          exact hfin _ (by first | (simp only [upd_app, ↓reduceIte, Nat.reduceEqDiff]; done) | (simp [upd_app]; done) | (simp [upd_app]; omega)) (by first | (simp only [upd_app, ↓reduceIte, Nat.reduceEqDiff]; done) | (simp [upd_app]; done) | (simp [upd_app]; omega))
  · have hl1 : ¬ 1 < s.length := fun h => hz ⟨h48, h⟩
    simp (disch := omega) only [go_sem, ↓k_cond, ↓x_idx, ↓k_block, Nat.reduceEqDiff, ↓reduceIte, reduceCtorEq, if_pos, if_neg, decide_eq_true, decide_eq_false, beqT, beqF, bneT, bneF, wrapI, wrapU32, wrapU64, wrapU8, nc_add, nc_addL, nc_addR, nc_mul, nc_mulL, nc_mulR, nc_div, nc_divL, nc_mod, nc_modL, nc_1, nc_sub1, natA_at, natA_put, eatH_one, Int.toNat_natCast, Option.map_some, shr32, shl32, List.getD_cons_zero, List.getD_cons_succ, List.length_set, List.set_cons_zero, List.set_cons_succ, e0, hc0', h48]
    refine k_loop R1 (fun i => s.length - i) 0 (by rw [hR1]; exact ⟨(by first | (simp only [upd_app, ↓reduceIte, Nat.reduceEqDiff]; done) | (simp [upd_app]; done) | (simp [upd_app]; omega)), (by first | (simp only [upd_app, ↓reduceIte, Nat.reduceEqDiff]; done) | (simp [upd_app]; done) | (simp [upd_app]; omega)), (by first | (simp only [upd_app, ↓reduceIte, Nat.reduceEqDiff]; done) | (simp [upd_app]; done) | (simp [upd_app]; omega)), (by first | (simp only [upd_app, ↓reduceIte, Nat.reduceEqDiff]; done) | (simp [upd_app]; done) | (simp [upd_app]; omega)), by simp, by simp⟩) ?_
    rintro i ⟨fr, h, nx⟩ hst J hJ
    rw [hR1] at hst
    obtain ⟨g0, g4, g29, g30, hi, hdg⟩ := hst
    simp only at g0 g4 g29 g30
    by_cases hin : i < s.length
    · obtain ⟨c, hc⟩ := get_some (xs := s) (i := i) hin
      have hcb := c.toNat_lt
      cases hd : isDig c with
      | false =>
        have hnd : c.toNat < 48 ∨ 57 < c.toNat := by simp [isDig] at hd; omega
        rw [hbad (by rw [htok]; simp; exact ⟨c, List.mem_of_getElem? hc, hd⟩)] at hQ
        rcases hnd with hnd | hnd
        · simp (disch := omega) only [go_sem, ↓k_cond, ↓x_idx, ↓k_block, Nat.reduceEqDiff, ↓reduceIte, reduceCtorEq, if_pos, if_neg, decide_eq_true, decide_eq_false, beqT, beqF, bneT, bneF, wrapI, wrapU32, wrapU64, wrapU8, nc_add, nc_addL, nc_addR, nc_mul, nc_mulL, nc_mulR, nc_div, nc_divL, nc_mod, nc_modL, nc_1, nc_sub1, natA_at, natA_put, eatH_one, Int.toNat_natCast, Option.map_some, shr32, shl32, List.getD_cons_zero, List.getD_cons_succ, List.length_set, List.set_cons_zero, List.set_cons_succ, g0, g4, g29, g30, hc]
          rw [← hQ]
          exact post_two (.inl rfl) rfl (by first | (simp only [upd_app, ↓reduceIte, Nat.reduceEqDiff]; done) | (simp [upd_app]; done) | (simp [upd_app]; omega)) (by first | (simp only [upd_app, ↓reduceIte, Nat.reduceEqDiff]; done) | (simp [upd_app]; done) | (simp [upd_app]; omega)) rfl rfl
        · simp (disch := omega) only [go_sem, ↓k_cond, ↓x_idx, ↓k_block, Nat.reduceEqDiff, ↓reduceIte, reduceCtorEq, if_pos, if_neg, decide_eq_true, decide_eq_false, beqT, beqF, bneT, bneF, wrapI, wrapU32, wrapU64, wrapU8, nc_add, nc_addL, nc_addR, nc_mul, nc_mulL, nc_mulR, nc_div, nc_divL, nc_mod, nc_modL, nc_1, nc_sub1, natA_at, natA_put, eatH_one, Int.toNat_natCast, Option.map_some, shr32, shl32, List.getD_cons_zero, List.getD_cons_succ, List.length_set, List.set_cons_zero, List.set_cons_succ, g0, g4, g29, g30, hc]
          rw [← hQ]
          exact post_two (.inl rfl) rfl (by first | (simp only [upd_app, ↓reduceIte, Nat.reduceEqDiff]; done) | (simp [upd_app]; done) | (simp [upd_app]; omega)) (by first | (simp only [upd_app, ↓reduceIte, Nat.reduceEqDiff]; done) | (simp [upd_app]; done) | (simp [upd_app]; omega)) rfl rfl
      | true =>
        have hnd : 48 ≤ c.toNat ∧ c.toNat ≤ 57 := by simpa [isDig] using hd
        simp (disch := omega) only [go_sem, ↓k_cond, ↓x_idx, ↓k_block, Nat.reduceEqDiff, ↓reduceIte, reduceCtorEq, if_pos, if_neg, decide_eq_true, decide_eq_false, beqT, beqF, bneT, bneF, wrapI, wrapU32, wrapU64, wrapU8, nc_add, nc_addL, nc_addR, nc_mul, nc_mulL, nc_mulR, nc_div, nc_divL, nc_mod, nc_modL, nc_1, nc_sub1, natA_at, natA_put, eatH_one, Int.toNat_natCast, Option.map_some, shr32, shl32, List.getD_cons_zero, List.getD_cons_succ, List.length_set, List.set_cons_zero, List.set_cons_succ, g0, g4, g29, g30, hc]
        refine hJ (i + 1) _ ?_ (by omega)
        rw [hR1]
        refine ⟨(by first | (simp only [upd_app, ↓reduceIte, Nat.reduceEqDiff, g0]; done) | (simp [upd_app, g0]; done) | (simp [upd_app, g0]; omega)), (by first | (simp only [upd_app, ↓reduceIte, Nat.reduceEqDiff, g4]; done) | (simp [upd_app, g4]; done) | (simp [upd_app, g4]; omega)), (by first | (simp only [upd_app, ↓reduceIte, Nat.reduceEqDiff, g29]; done) | (simp [upd_app, g29]; done) | (simp [upd_app, g29]; omega)), (by first | (simp only [upd_app, ↓reduceIte, Nat.reduceEqDiff]; done) | (simp [upd_app]; done) | (simp [upd_app]; omega)), hin, fun d hd' => ?_⟩
        rw [List.take_add_one, hc] at hd'
        rcases List.mem_append.1 hd' with h' | h'
        · exact hdg d h'
        · simp at h'; rw [h']; exact hd
    · rw [List.take_of_length_le (by omega)] at hdg
      clear hJ
      simp (disch := omega) only [go_sem, ↓k_cond, ↓x_idx, ↓k_block, Nat.reduceEqDiff, ↓reduceIte, reduceCtorEq, if_pos, if_neg, decide_eq_true, decide_eq_false, beqT, beqF, bneT, bneF, wrapI, wrapU32, wrapU64, wrapU8, nc_add, nc_addL, nc_addR, nc_mul, nc_mulL, nc_mulR, nc_div, nc_divL, nc_mod, nc_modL, nc_1, nc_sub1, natA_at, natA_put, eatH_one, Int.toNat_natCast, Option.map_some, shr32, shl32, List.getD_cons_zero, List.getD_cons_succ, List.length_set, List.set_cons_zero, List.set_cons_succ, g0, g4, g29, g30]
      refine k_loop R2 (fun p => p.2.length) ([], s) (by rw [hR2]; exact ⟨(by first | (simp only [upd_app, ↓reduceIte, Nat.reduceEqDiff, g0]; done) | (simp [upd_app, g0]; done) | (simp [upd_app, g0]; omega)), by simp, .inr ⟨rfl, (by first | (simp only [upd_app, ↓reduceIte, Nat.reduceEqDiff, g4]; done) | (simp [upd_app, g4]; done) | (simp [upd_app, g4]; omega))⟩, hdg⟩) ?_
      clear g0 g4 g29 g30 hi hin
      rintro ⟨pre, rest⟩ ⟨fr, h, nx⟩ hst J hJ
      rw [hR2] at hst
      obtain ⟨g0, hps, g4, _⟩ := hst
      simp only at g0 hps g4
      have hpd : ∀ c ∈ pre, isDig c = true := fun c hc => hdg c (by rw [← hps]; simp [hc])
      have hrd : ∀ c ∈ rest, isDig c = true := fun c hc => hdg c (by rw [← hps]; simp [hc])
      have hlen : pre.length + rest.length = s.length := by rw [← hps]; simp
      rw [htrue (by simpa using hdg)] at hQ
      by_cases hr0 : rest = []
      · subst hr0
        have er : (([] : List UInt8) == []) = true := rfl
        rw [List.append_nil] at hps
        subst hps
        rcases g4 with g4 | ⟨hp, _⟩
        · simp (disch := omega) only [go_sem, ↓k_cond, ↓x_idx, ↓k_block, Nat.reduceEqDiff, ↓reduceIte, reduceCtorEq, if_pos, if_neg, decide_eq_true, decide_eq_false, beqT, beqF, bneT, bneF, wrapI, wrapU32, wrapU64, wrapU8, nc_add, nc_addL, nc_addR, nc_mul, nc_mulL, nc_mulR, nc_div, nc_divL, nc_mod, nc_modL, nc_1, nc_sub1, natA_at, natA_put, eatH_one, Int.toNat_natCast, Option.map_some, shr32, shl32, List.getD_cons_zero, List.getD_cons_succ, List.length_set, List.set_cons_zero, List.set_cons_succ, g0, er, g4]
          rw [← hQ]
          exact post_two (.inl rfl) rfl (by first | (simp only [upd_app, ↓reduceIte, Nat.reduceEqDiff, g4]; done) | (simp [upd_app, g4]; done) | (simp [upd_app, g4]; omega)) (by first | (simp only [upd_app, ↓reduceIte, Nat.reduceEqDiff]; done) | (simp [upd_app]; done) | (simp [upd_app]; omega)) (by simp) rfl
        · exact absurd hp h0
      · have er : (rest == []) = false := by simpa using hr0
        have hrl : 0 < rest.length := List.length_pos_iff.2 hr0
        obtain ⟨X, hX⟩ : ∃ X, fr 4 = X := ⟨_, rfl⟩
        rw [hX] at g4
        have hXp : X.pure = true := by rcases g4 with rfl | ⟨_, rfl⟩ <;> simp [AV.pure, AV.pureL]
        obtain ⟨k, hk, hk0, hk9⟩ : ∃ k, (if rest.length % 9 = 0 then 9 else rest.length % 9) = k ∧ 0 < k ∧ k ≤ 9 := ⟨_, rfl, by split <;> omega, by split <;> omega⟩
        have hkl : k ≤ rest.length := by split at hk <;> omega
        have hcd : ∀ c ∈ rest.take k, isDig c = true := fun c hc => hrd c (List.mem_of_mem_take hc)
        have hcl : (rest.take k).length = k := by simp; omega
        have hPU := g_ParseUint (rest.take k) hcd (fun e => by rw [e] at hcl; simp at hcl; omega) (by omega)
        have hten := mul_ten (show k ≤ 18 by omega)
        have hcv : dval (rest.take k) < 1000000000000000000 := by have := dval_lt hcd; rw [hcl] at this; omega
        have hpe : (enc B32 (dval pre)).length ≤ 200 := Nat.le_trans (dval_enc (by decide) hpd) (by omega)
        have hte : (enc B32 (10 ^ k)).length ≤ 3 := enc_len_le B32_gt (by simp only [B32]; omega)
        have hce : (enc B32 (dval (rest.take k))).length ≤ 3 := enc_len_le B32_gt (by simp only [B32]; omega)
        have hmul : CallOk Tryd.prog 33 [X, natI (10 ^ k)] (natI (dval pre * 10 ^ k)) [] := by
          rcases g4 with rfl | ⟨rfl, rfl⟩
          · exact i_mul _ _ (by omega) (by omega)
          · have := i_mul 0 (10 ^ k) (by simp [enc_zero]) (by omega)
            rw [show dval [] = 0 from rfl]
            rw [nat0] at this
            exact this.args (SubL.cons sub_sl (SubL.refl _))
        have hnew : dval pre * 10 ^ k + dval (rest.take k) = dval (pre ++ rest.take k) := by rw [dval_append, hcl]
        have hpm : (enc B32 (dval pre * 10 ^ k)).length ≤ 1099511627776 := by
          have : (enc B32 (dval pre * 10 ^ k)).length ≤ (enc B32 (dval (pre ++ rest.take k))).length := enc_len_mono B32_gt (by rw [← hnew]; omega)
          have h2 := dval_enc (B := B32) (by decide) (s := pre ++ rest.take k) (fun c hc => by rcases List.mem_append.1 hc with h | h; exact hpd c h; exact hcd c h)
          simp only [List.length_append] at h2; omega
        have hadd := i_addTo (dval pre * 10 ^ k) (dval (rest.take k)) hpm (by omega)
        rw [hnew] at hadd
        have hfin : ∀ st : St, st.fr 0 = .str (rest.drop k) → st.fr 4 = natI (dval (pre ++ rest.take k)) → J st := fun st r0 r4 => hJ (pre ++ rest.take k, rest.drop k) st (by
          rw [hR2]; exact ⟨r0, by simp [hps], .inl r4, hdg⟩) (by simp; omega)
        clear hJ hR1 hR2 hbad htrue hQ hps
        simp (disch := omega) only [go_sem, ↓k_cond, ↓x_idx, Nat.reduceEqDiff, ↓reduceIte, reduceCtorEq, if_pos, if_neg, decide_eq_true, decide_eq_false, beqT, beqF, bneT, bneF, wrapI, wrapU32, wrapU64, wrapU8, nc_add, nc_addL, nc_addR, nc_mul, nc_mulL, nc_mulR, nc_div, nc_divL, nc_mod, nc_modL, nc_1, nc_sub1, natA_at, natA_put, eatH_one, Int.toNat_natCast, Option.map_some, shr32, shl32, List.getD_cons_zero, List.getD_cons_succ, List.length_set, List.set_cons_zero, List.set_cons_succ, g0, er, hX]
        rw [k_block]
        obtain ⟨F, hF⟩ : ∃ F : St → Prop, F = fun st => st.fr 0 = .str rest ∧ st.fr 4 = X ∧ st.fr 6 = .int .i64 k := ⟨_, rfl⟩
        simp (disch := omega) only [go_sem, ↓x_idx, ↓k_block, Nat.reduceEqDiff, ↓reduceIte, reduceCtorEq, if_pos, if_neg, decide_eq_true, decide_eq_false, beqT, beqF, bneT, bneF, wrapI, wrapU32, wrapU64, wrapU8, nc_add, nc_addL, nc_addR, nc_mul, nc_mulL, nc_mulR, nc_div, nc_divL, nc_mod, nc_modL, nc_1, nc_sub1, natA_at, natA_put, eatH_one, Int.toNat_natCast, Option.map_some, shr32, shl32, List.getD_cons_zero, List.getD_cons_succ, List.length_set, List.set_cons_zero, List.set_cons_succ, g0, hX]
        refine k_join F ?_ ?_
        · by_cases hk9' : rest.length % 9 = 0
          · rw [if_pos hk9'] at hk
            simp (disch := omega) only [go_sem, ↓k_cond, ↓x_idx, ↓k_block, Nat.reduceEqDiff, ↓reduceIte, reduceCtorEq, if_pos, if_neg, decide_eq_true, decide_eq_false, beqT, beqF, bneT, bneF, wrapI, wrapU32, wrapU64, wrapU8, nc_add, nc_addL, nc_addR, nc_mul, nc_mulL, nc_mulR, nc_div, nc_divL, nc_mod, nc_modL, nc_1, nc_sub1, natA_at, natA_put, eatH_one, Int.toNat_natCast, Option.map_some, shr32, shl32, List.getD_cons_zero, List.getD_cons_succ, List.length_set, List.set_cons_zero, List.set_cons_succ, g0, hX, hk9']
            rw [hF]; exact ⟨(by first | (simp only [upd_app, ↓reduceIte, Nat.reduceEqDiff, g0]; done) | (simp [upd_app, g0]; done) | (simp [upd_app, g0]; omega)), (by first | (simp only [upd_app, ↓reduceIte, Nat.reduceEqDiff, hX]; done) | (simp [upd_app, hX]; done) | (simp [upd_app, hX]; omega)), (by first | (simp only [upd_app, ↓reduceIte, Nat.reduceEqDiff, hk]; done) | (simp [upd_app, hk]; done) | (simp [upd_app, hk]; omega))⟩
          · rw [if_neg hk9'] at hk
            simp (disch := omega) only [go_sem, ↓k_cond, ↓x_idx, ↓k_block, Nat.reduceEqDiff, ↓reduceIte, reduceCtorEq, if_pos, if_neg, decide_eq_true, decide_eq_false, beqT, beqF, bneT, bneF, wrapI, wrapU32, wrapU64, wrapU8, nc_add, nc_addL, nc_addR, nc_mul, nc_mulL, nc_mulR, nc_div, nc_divL, nc_mod, nc_modL, nc_1, nc_sub1, natA_at, natA_put, eatH_one, Int.toNat_natCast, Option.map_some, shr32, shl32, List.getD_cons_zero, List.getD_cons_succ, List.length_set, List.set_cons_zero, List.set_cons_succ, g0, hX, hk]
            rw [hF]; exact ⟨(by first | (simp only [upd_app, ↓reduceIte, Nat.reduceEqDiff, g0]; done) | (simp [upd_app, g0]; done) | (simp [upd_app, g0]; omega)), (by first | (simp only [upd_app, ↓reduceIte, Nat.reduceEqDiff, hX]; done) | (simp [upd_app, hX]; done) | (simp [upd_app, hX]; omega)), (by first | (simp only [upd_app, ↓reduceIte, Nat.reduceEqDiff, hk]; done) | (simp [upd_app, hk]; done) | (simp [upd_app, hk]; omega))⟩
        clear hk
        rintro ⟨fr, h, nx⟩ hst
        rw [hF] at hst
        obtain ⟨g0, g4', g6⟩ := hst
        simp only at g0 g4' g6
        simp (disch := omega) only [go_sem, ↓k_cond, ↓x_idx, ↓k_block, Nat.reduceEqDiff, ↓reduceIte, reduceCtorEq, if_pos, if_neg, decide_eq_true, decide_eq_false, beqT, beqF, bneT, bneF, wrapI, wrapU32, wrapU64, wrapU8, nc_add, nc_addL, nc_addR, nc_mul, nc_mulL, nc_mulR, nc_div, nc_divL, nc_mod, nc_modL, nc_1, nc_sub1, natA_at, natA_put, eatH_one, Int.toNat_natCast, Option.map_some, shr32, shl32, List.getD_cons_zero, List.getD_cons_succ, List.length_set, List.set_cons_zero, List.set_cons_succ, g0, g4', g6]
        refine x_callP hPU c_ParseUint (by simp [evA, upd_app, ofVal, ofCell]) (by simp [AV.pure, AV.pureL]) (by simp [AV.pure, AV.pureL]) ?_
        simp (disch := omega) only [go_sem, ↓k_cond, ↓x_idx, ↓k_block, Nat.reduceEqDiff, ↓reduceIte, reduceCtorEq, if_pos, if_neg, decide_eq_true, decide_eq_false, beqT, beqF, bneT, bneF, wrapI, wrapU32, wrapU64, wrapU8, nc_add, nc_addL, nc_addR, nc_mul, nc_mulL, nc_mulR, nc_div, nc_divL, nc_mod, nc_modL, nc_1, nc_sub1, natA_at, natA_put, eatH_one, Int.toNat_natCast, Option.map_some, shr32, shl32, List.getD_cons_zero, List.getD_cons_succ, List.length_set, List.set_cons_zero, List.set_cons_succ, g0, g4', g6]
        refine k_loop (fun (i : Nat) st => st.fr 0 = .str rest ∧ st.fr 4 = X ∧ st.fr 6 = .int .i64 k ∧ st.fr 7 = .int .u64 (dval (rest.take k)) ∧ st.fr 9 = .int .u64 (10 ^ i : Nat) ∧ st.fr 58 = .int .i64 k ∧ st.fr 59 = .int .i64 i ∧ i ≤ k) (fun i => k - i) 0
          ⟨(by first | (simp only [upd_app, ↓reduceIte, Nat.reduceEqDiff, g0]; done) | (simp [upd_app, g0]; done) | (simp [upd_app, g0]; omega)), (by first | (simp only [upd_app, ↓reduceIte, Nat.reduceEqDiff, g4']; done) | (simp [upd_app, g4']; done) | (simp [upd_app, g4']; omega)), (by first | (simp only [upd_app, ↓reduceIte, Nat.reduceEqDiff, g6]; done) | (simp [upd_app, g6]; done) | (simp [upd_app, g6]; omega)), (by first | (simp only [upd_app, ↓reduceIte, Nat.reduceEqDiff]; done) | (simp [upd_app]; done) | (simp [upd_app]; omega)), (by first | (simp only [upd_app, ↓reduceIte, Nat.reduceEqDiff]; done) | (simp [upd_app]; done) | (simp [upd_app]; omega)), (by first | (simp only [upd_app, ↓reduceIte, Nat.reduceEqDiff, g6]; done) | (simp [upd_app, g6]; done) | (simp [upd_app, g6]; omega)), (by first | (simp only [upd_app, ↓reduceIte, Nat.reduceEqDiff]; done) | (simp [upd_app]; done) | (simp [upd_app]; omega)), by omega⟩ ?_
        rintro i ⟨fr, h, nx⟩ ⟨g0, g4', g6, g7, g9, g58, g59, hi⟩ J2 hJ2
        simp only at g0 g4' g6 g7 g9 g58 g59
        by_cases hik : i < k
        · have h10 := mul_ten (show i ≤ 18 by omega)
          have hs10 : 10 ^ i * 10 = 10 ^ (i + 1) := rfl
          obtain ⟨z, hz'⟩ : ∃ z, 10 ^ i = z := ⟨_, rfl⟩
          rw [hz'] at h10 hs10 g9
          simp (disch := omega) only [go_sem, ↓k_cond, ↓x_idx, ↓k_block, Nat.reduceEqDiff, ↓reduceIte, reduceCtorEq, if_pos, if_neg, decide_eq_true, decide_eq_false, beqT, beqF, bneT, bneF, wrapI, wrapU32, wrapU64, wrapU8, nc_add, nc_addL, nc_addR, nc_mul, nc_mulL, nc_mulR, nc_div, nc_divL, nc_mod, nc_modL, nc_1, nc_sub1, natA_at, natA_put, eatH_one, Int.toNat_natCast, Option.map_some, shr32, shl32, List.getD_cons_zero, List.getD_cons_succ, List.length_set, List.set_cons_zero, List.set_cons_succ, g0, g4', g6, g7, g9, g58, g59]
          exact hJ2 (i + 1) _ ⟨(by first | (simp only [upd_app, ↓reduceIte, Nat.reduceEqDiff, g0]; done) | (simp [upd_app, g0]; done) | (simp [upd_app, g0]; omega)), (by first | (simp only [upd_app, ↓reduceIte, Nat.reduceEqDiff, g4']; done) | (simp [upd_app, g4']; done) | (simp [upd_app, g4']; omega)), (by first | (simp only [upd_app, ↓reduceIte, Nat.reduceEqDiff, g6]; done) | (simp [upd_app, g6]; done) | (simp [upd_app, g6]; omega)), (by first | (simp only [upd_app, ↓reduceIte, Nat.reduceEqDiff, g7]; done) | (simp [upd_app, g7]; done) | (simp [upd_app, g7]; omega)), (by first | (simp only [upd_app, ↓reduceIte, Nat.reduceEqDiff, hs10]; done) | (simp [upd_app, hs10]; done) | (simp [upd_app, hs10]; omega)), (by first | (simp only [upd_app, ↓reduceIte, Nat.reduceEqDiff, g58]; done) | (simp [upd_app, g58]; done) | (simp [upd_app, g58]; omega)), (by first | (simp only [upd_app, ↓reduceIte, Nat.reduceEqDiff]; done) | (simp [upd_app]; done) | (simp [upd_app]; omega)), hik⟩ (by omega)
        · obtain rfl : i = k := by omega
          simp (disch := omega) only [go_sem, ↓k_cond, ↓x_idx, ↓k_block, Nat.reduceEqDiff, ↓reduceIte, reduceCtorEq, if_pos, if_neg, decide_eq_true, decide_eq_false, beqT, beqF, bneT, bneF, wrapI, wrapU32, wrapU64, wrapU8, nc_add, nc_addL, nc_addR, nc_mul, nc_mulL, nc_mulR, nc_div, nc_divL, nc_mod, nc_modL, nc_1, nc_sub1, natA_at, natA_put, eatH_one, Int.toNat_natCast, Option.map_some, shr32, shl32, List.getD_cons_zero, List.getD_cons_succ, List.length_set, List.set_cons_zero, List.set_cons_succ, g0, g4', g6, g7, g9, g58, g59]
          refine x_callP (i_natOf (10 ^ i) (by omega)) ci_natOf (by simp [evA, upd_app, ofVal, ofCell, g9]) (by simp [AV.pure, AV.pureL, natA_pure, natI_pure, natS_pure]) (by simp [AV.pure, AV.pureL, natA_pure, natI_pure, natS_pure]) ?_
          refine x_callP hmul ci_mul (by simp [evA, upd_app, g4']) (by simp [AV.pureL, hXp]) (by simp) ?_
          simp (disch := omega) only [go_sem, ↓k_cond, ↓x_idx, ↓k_block, Nat.reduceEqDiff, ↓reduceIte, reduceCtorEq, if_pos, if_neg, decide_eq_true, decide_eq_false, beqT, beqF, bneT, bneF, wrapI, wrapU32, wrapU64, wrapU8, nc_add, nc_addL, nc_addR, nc_mul, nc_mulL, nc_mulR, nc_div, nc_divL, nc_mod, nc_modL, nc_1, nc_sub1, natA_at, natA_put, eatH_one, Int.toNat_natCast, Option.map_some, shr32, shl32, List.getD_cons_zero, List.getD_cons_succ, List.length_set, List.set_cons_zero, List.set_cons_succ, g7]
          refine x_callP (i_natOf (dval (rest.take i)) (by omega)) ci_natOf (by simp [evA, upd_app, ofVal, ofCell, g7]) (by simp [AV.pure, AV.pureL, natA_pure, natI_pure, natS_pure]) (by simp [AV.pure, AV.pureL, natA_pure, natI_pure, natS_pure]) ?_
          refine x_callP (hadd) ci_add (by simp [evA, upd_app, ofVal, ofCell]) (by simp [AV.pure, AV.pureL, natA_pure, natI_pure, natS_pure]) (by simp [AV.pure, AV.pureL, natA_pure, natI_pure, natS_pure]) ?_
          simp (disch := omega) only [go_sem, ↓k_cond, ↓x_idx, ↓k_block, Nat.reduceEqDiff, ↓reduceIte, reduceCtorEq, if_pos, if_neg, decide_eq_true, decide_eq_false, beqT, beqF, bneT, bneF, wrapI, wrapU32, wrapU64, wrapU8, nc_add, nc_addL, nc_addR, nc_mul, nc_mulL, nc_mulR, nc_div, nc_divL, nc_mod, nc_modL, nc_1, nc_sub1, natA_at, natA_put, eatH_one, Int.toNat_natCast, Option.map_some, shr32, shl32, List.getD_cons_zero, List.getD_cons_succ, List.length_set, List.set_cons_zero, List.set_cons_succ, g0, g6, List.take_length]
          exact hfin _ (by first | (simp only [upd_app, ↓reduceIte, Nat.reduceEqDiff]; done) | (simp [upd_app]; done) | (simp [upd_app]; omega)) (by first | (simp only [upd_app, ↓reduceIte, Nat.reduceEqDiff]; done) | (simp [upd_app]; done) | (simp [upd_app]; omega))
end Go.Proofs.YtogabejpbdmnnaaDoor

/- The program reads fractions. -/
set_option linter.unusedSimpArgs false
set_option linter.unusedVariables false
namespace Go.Proofs.YtogabejpbdmnnaaDoor
open Go

theorem ci_readRat : callable Tryd.prog 16 = true := by kernel_rfl
/-- The part ahead of the slash. -/
def firstQ (s : List UInt8) : List UInt8 := match findB 47 s with | some i => s.take i | none => s
def digsQ (s : List UInt8) : List UInt8 := if headB 45 (firstQ s) = true then (firstQ s).tail else firstQ s
/-- The fraction with a text: its sign, and both naturals in lowest terms. -/
def parseQ (s : List UInt8) : Option (Bool × Nat × Nat) :=
  if tokD (digsQ s) = true ∧ ¬ (headB 45 (firstQ s) = true ∧ dval (digsQ s) = 0) then
    match findB 47 s with
    | none => some (headB 45 (firstQ s), dval (digsQ s), 1)
    | some i => if tokD (s.drop (i + 1)) = true ∧ 1 < dval (s.drop (i + 1)) ∧ Nat.gcd (dval (digsQ s)) (dval (s.drop (i + 1))) = 1 then some (headB 45 (firstQ s), dval (digsQ s), dval (s.drop (i + 1))) else none
  else none
/-- A number of the program: sign, top, bottom. -/
def ratI (q : Bool × Nat × Nat) : AV := .agg [.bool q.1, natI q.2.1, natI q.2.2]
def zeroI : AV := .agg [.bool false, .nil, .nil]
@[simp] theorem ratI_pure (q : Bool × Nat × Nat) : (ratI q).pure = true := by simp [ratI, AV.pure, AV.pureL]
def readRatV (s : List UInt8) : AV := match parseQ s with | some q => .tup [ratI q, .bool true] | none => .tup [zeroI, .bool false]
/-- A function ends with what lies in a cell, and one value more. -/
theorem post_cell {P : Program} {fn : Func} {n0 : Nat} {fl : Bool} {t u : Tmp} {T id : Nat} {x r s : AV} {st : St} {e : Ex} (he : e = .ret ∨ e = .normal) (hr : fn.results.toList = [.cell t T, .tmp u]) (hok : okT P T = true) (hv : st.fr t = .ptr id 1 0 0) (hlv : (st.h id).lv = true) (hx : (st.h id).xs = [x])
    (hl : ldA P T x 0 = some r) (hw : st.fr u = s) (hp : r.pure = true) (hq : s.pure = true) : Post P fn n0 fl false (.tup [r, s]) [] e st := by
  refine ⟨by rcases he with rfl | rfl <;> trivial, .tup [r, s], by rw [hr]; simp [resV, resL, resA, hv, hw, hok, loadA, hlv, hx, hl], [], ?_, .inl rfl⟩
  simp only [Bool.false_eq_true, if_false]
  exact ⟨snapA_pure (by simp [AV.pure, AV.pureL, hp, hq]), by simp⟩
theorem el_iRat {b : Bool} {m n : Nat} : AV.el Tryd.prog 42 (.agg [.bool b, natI m, natI n]) = true := by simp [AV.el, s_iRat, AV.cells, AV.one, natI]
theorem el_iRat0 {b : Bool} : AV.el Tryd.prog 42 (.agg [.bool b, .nil, .nil]) = true := by simp [AV.el, s_iRat, AV.cells, AV.one]
theorem el_boolT {b : Bool} : AV.el Tryd.prog 4 (.bool b) = true := by simp [AV.el, s_bool, AV.cells, AV.one]
theorem el_natT {n : Nat} : AV.el Tryd.prog 40 (natI n) = true := by simp [AV.el, s_nat, AV.cells, AV.one, natI]
theorem ld_iRat {b c d : AV} : ldA Tryd.prog 42 (.agg [b, c, d]) 0 = some (.agg [b, c, d]) := by simp [ldA, partA, g_iRat, s_iRat, AV.cells]
theorem el_iRatS {b : Bool} {t t' : Nat} {xs sp xs' sp' : List AV} {ex ex' : Bool} : AV.el Tryd.prog 42 (.agg [.bool b, .sl t xs sp ex, .sl t' xs' sp' ex']) = true := by simp [AV.el, s_iRat, AV.cells, AV.one]
theorem el_natS {t : Nat} {xs sp : List AV} {ex : Bool} : AV.el Tryd.prog 40 (.sl t xs sp ex) = true := by simp [AV.el, s_nat, AV.cells, AV.one]
attribute [go_sem] el_iRat el_iRat0 el_boolT el_natT ld_iRat el_iRatS el_natS

theorem i_readRat (s : List UInt8) (hs : s.length < 9223372036854775808) : CallOk Tryd.prog 16 [.str s] (readRatV s) [] := by
  have hCut := g_Cut s 47 hs
  have hfl : (firstQ s).length ≤ s.length := by unfold firstQ; split <;> simp; omega
  have hPre := g_CutPrefix (firstQ s) 45 (by omega)
  have hdl : (digsQ s).length ≤ s.length := by
    unfold digsQ; split
    · simp; omega
    · exact hfl
  have hN1 := i_readNat (digsQ s) (by omega)
  rw [show (if headB 45 (firstQ s) = true then (firstQ s).tail else firstQ s) = digsQ s from rfl] at hPre
  have hfail : ∀ (st : St), st.fr 2 = .ptr 0 1 0 0 → (st.h 0).lv = true → (st.h 0).xs = [zeroI] → st.fr 3 = .bool false → parseQ s = none → Post Tryd.prog Tryd.f16 (matL false [AV.str s] st00).2.nx (AV.flatL [AV.str s]) false (readRatV s) [] .ret st := by
    intro st k2 kl kx k3 hp
    rw [readRatV, hp]
    exact post_cell (x := zeroI) (.inl rfl) rfl o_iRat k2 kl kx ld_iRat k3 rfl rfl
  have hgood : ∀ (st : St) (q : Bool × Nat × Nat), st.fr 2 = .ptr 0 1 0 0 → (st.h 0).lv = true → (st.h 0).xs = [ratI q] → st.fr 3 = .bool true → parseQ s = some q → Post Tryd.prog Tryd.f16 (matL false [AV.str s] st00).2.nx (AV.flatL [AV.str s]) false (readRatV s) [] .ret st := by
    intro st q k2 kl kx k3 hp
    rw [readRatV, hp]
    exact post_cell (x := ratI q) (.inl rfl) rfl o_iRat k2 kl kx ld_iRat k3 (by simp) rfl
  have hone := i_natOf 1 (by omega)
  have e0 : [AV.bool false, AV.nil, AV.nil].length = 3 := rfl
  obtain ⟨second, isS, hCut', hsec⟩ : ∃ (second : List UInt8) (isS : Bool), CallOk Tryd.prog 22 [.str s, .str [47]] (.tup [.str (firstQ s), .str second, .bool isS]) [] ∧ ((isS = false ∧ findB 47 s = none) ∨ ∃ i, isS = true ∧ findB 47 s = some i ∧ second = s.drop (i + 1)) := by
    unfold cutV at hCut
    cases hf : findB 47 s with
    | none => simp only [hf] at hCut; exact ⟨[], false, by simpa [firstQ, hf] using hCut, .inl ⟨rfl, rfl⟩⟩
    | some i => simp only [hf] at hCut; exact ⟨_, true, by simpa [firstQ, hf] using hCut, .inr ⟨i, rfl, rfl, rfl⟩⟩
  have hsl : second.length ≤ s.length ∨ isS = false := by
    rcases hsec with ⟨h, _⟩ | ⟨i, _, _, rfl⟩
    · exact .inr h
    · left; simp
  have htk : tokD (digsQ s) = true → (enc B32 (dval (digsQ s))).length ≤ 200 := fun h => by
    obtain ⟨_, b, c⟩ := tok_len h
    exact Nat.le_trans (dval_enc (by decide) c) b
  obtain ⟨neg, hneg⟩ : ∃ neg, headB 45 (firstQ s) = neg := ⟨_, rfl⟩
  obtain ⟨fs, hfs⟩ : ∃ fs, firstQ s = fs := ⟨_, rfl⟩
  have hpq : parseQ s = if tokD (digsQ s) = true ∧ ¬ (neg = true ∧ dval (digsQ s) = 0) then
    match findB 47 s with
    | none => some (neg, dval (digsQ s), 1)
    | some i => if tokD (s.drop (i + 1)) = true ∧ 1 < dval (s.drop (i + 1)) ∧ Nat.gcd (dval (digsQ s)) (dval (s.drop (i + 1))) = 1 then some (neg, dval (digsQ s), dval (s.drop (i + 1))) else none
  else none := by rw [parseQ, hneg]
  obtain ⟨D, hD⟩ : ∃ D, digsQ s = D := ⟨_, rfl⟩
  rw [hD] at hPre hN1 htk hpq
  rw [hneg, hfs] at hPre
  rw [hfs] at hCut'
  clear hCut hfl hdl hneg
  cases htd : tokD D with
  | false =>
    rw [htd] at hpq
    simp only [Bool.false_eq_true, false_and, if_false] at hpq
    simp only [readNatV, htd, Bool.false_eq_true, if_false] at hN1
    (refine callOk_of_wpc (W := fun _ => false) false hm' Tryd.func16 rfl (by kernel_rfl) (Nat.le_of_ble_eq_true rfl) (go_start ?_); generalize hQ : Post Tryd.prog Tryd.f16 _ _ _ _ _ = Q; simp only [stIn, matL, matA, st00])
    simp (disch := omega) only [go_sem, ↓k_cond, ↓x_idx, ↓k_block, Nat.reduceEqDiff, ↓reduceIte, reduceCtorEq, if_pos, if_neg, decide_eq_true, decide_eq_false, beqT, beqF, bneT, bneF, wrapI, wrapU32, wrapU64, wrapU8, nc_add, nc_addL, nc_addR, nc_mul, nc_mulL, nc_mulR, nc_div, nc_divL, nc_mod, nc_modL, nc_1, nc_sub1, natA_at, natA_put, eatH_one, Int.toNat_natCast, Option.map_some, shr32, shl32, List.getD_cons_zero, List.getD_cons_succ, List.length_set, List.set_cons_zero, List.set_cons_succ, zeroI, e0]
    refine x_callP (hCut') c_Cut (by simp [evA, upd_app, ofVal, ofCell]) (by simp [AV.pure, AV.pureL, natA_pure, natI_pure, natS_pure]) (by simp [AV.pure, AV.pureL, natA_pure, natI_pure, natS_pure]) ?_
    simp (disch := omega) only [go_sem, ↓k_cond, ↓x_idx, ↓k_block, Nat.reduceEqDiff, ↓reduceIte, reduceCtorEq, if_pos, if_neg, decide_eq_true, decide_eq_false, beqT, beqF, bneT, bneF, wrapI, wrapU32, wrapU64, wrapU8, nc_add, nc_addL, nc_addR, nc_mul, nc_mulL, nc_mulR, nc_div, nc_divL, nc_mod, nc_modL, nc_1, nc_sub1, natA_at, natA_put, eatH_one, Int.toNat_natCast, Option.map_some, shr32, shl32, List.getD_cons_zero, List.getD_cons_succ, List.length_set, List.set_cons_zero, List.set_cons_succ, natI]
    refine x_callP (hPre) c_CutPrefix (by simp [evA, upd_app, ofVal, ofCell]) (by simp [AV.pure, AV.pureL, natA_pure, natI_pure, natS_pure]) (by simp [AV.pure, AV.pureL, natA_pure, natI_pure, natS_pure]) ?_
    simp (disch := omega) only [go_sem, ↓k_cond, ↓x_idx, ↓k_block, Nat.reduceEqDiff, ↓reduceIte, reduceCtorEq, if_pos, if_neg, decide_eq_true, decide_eq_false, beqT, beqF, bneT, bneF, wrapI, wrapU32, wrapU64, wrapU8, nc_add, nc_addL, nc_addR, nc_mul, nc_mulL, nc_mulR, nc_div, nc_divL, nc_mod, nc_modL, nc_1, nc_sub1, natA_at, natA_put, eatH_one, Int.toNat_natCast, Option.map_some, shr32, shl32, List.getD_cons_zero, List.getD_cons_succ, List.length_set, List.set_cons_zero, List.set_cons_succ, natI]
    refine x_callP (hN1) ci_readNat (by simp [evA, upd_app, ofVal, ofCell]) (by simp [AV.pure, AV.pureL, natA_pure, natI_pure, natS_pure]) (by simp [AV.pure, AV.pureL, natA_pure, natI_pure, natS_pure]) ?_
    simp (disch := omega) only [go_sem, ↓k_cond, ↓x_idx, ↓k_block, Nat.reduceEqDiff, ↓reduceIte, reduceCtorEq, if_pos, if_neg, decide_eq_true, decide_eq_false, beqT, beqF, bneT, bneF, wrapI, wrapU32, wrapU64, wrapU8, nc_add, nc_addL, nc_addR, nc_mul, nc_mulL, nc_mulR, nc_div, nc_divL, nc_mod, nc_modL, nc_1, nc_sub1, natA_at, natA_put, eatH_one, Int.toNat_natCast, Option.map_some, shr32, shl32, List.getD_cons_zero, List.getD_cons_succ, List.length_set, List.set_cons_zero, List.set_cons_succ, e0, natI]
    rw [← hQ]
    exact hfail _ (by first | (simp only [upd_app, ↓reduceIte, Nat.reduceEqDiff]; done) | (simp [upd_app]; done) | (simp [upd_app]; omega)) (by simp [upd_app]) (by simp [upd_app, zeroI]) (by first | (simp only [upd_app, ↓reduceIte, Nat.reduceEqDiff]; done) | (simp [upd_app]; done) | (simp [upd_app]; omega)) hpq
  | true =>
    have htl := htk htd
    simp only [readNatV, htd, if_true] at hN1
    rw [htd] at hpq
    simp only [true_and] at hpq
    obtain ⟨v, hv⟩ : ∃ v, dval D = v := ⟨_, rfl⟩
    rw [hv] at hN1 hpq htl
    by_cases hnz : neg = true ∧ v = 0
    · obtain ⟨rfl, rfl⟩ := hnz
      simp only [and_self, not_true_eq_false, if_false] at hpq
      have hz : natI 0 = .sl 67 [] [] false := by simp [natI, enc_zero, natA]
      rw [hz] at hN1
      (refine callOk_of_wpc (W := fun _ => false) false hm' Tryd.func16 rfl (by kernel_rfl) (Nat.le_of_ble_eq_true rfl) (go_start ?_); generalize hQ : Post Tryd.prog Tryd.f16 _ _ _ _ _ = Q; simp only [stIn, matL, matA, st00])
      simp (disch := omega) only [go_sem, ↓k_cond, ↓x_idx, ↓k_block, Nat.reduceEqDiff, ↓reduceIte, reduceCtorEq, if_pos, if_neg, decide_eq_true, decide_eq_false, beqT, beqF, bneT, bneF, wrapI, wrapU32, wrapU64, wrapU8, nc_add, nc_addL, nc_addR, nc_mul, nc_mulL, nc_mulR, nc_div, nc_divL, nc_mod, nc_modL, nc_1, nc_sub1, natA_at, natA_put, eatH_one, Int.toNat_natCast, Option.map_some, shr32, shl32, List.getD_cons_zero, List.getD_cons_succ, List.length_set, List.set_cons_zero, List.set_cons_succ, zeroI, e0]
      refine x_callP (hCut') c_Cut (by simp [evA, upd_app, ofVal, ofCell]) (by simp [AV.pure, AV.pureL, natA_pure, natI_pure, natS_pure]) (by simp [AV.pure, AV.pureL, natA_pure, natI_pure, natS_pure]) ?_
      simp (disch := omega) only [go_sem, ↓k_cond, ↓x_idx, ↓k_block, Nat.reduceEqDiff, ↓reduceIte, reduceCtorEq, if_pos, if_neg, decide_eq_true, decide_eq_false, beqT, beqF, bneT, bneF, wrapI, wrapU32, wrapU64, wrapU8, nc_add, nc_addL, nc_addR, nc_mul, nc_mulL, nc_mulR, nc_div, nc_divL, nc_mod, nc_modL, nc_1, nc_sub1, natA_at, natA_put, eatH_one, Int.toNat_natCast, Option.map_some, shr32, shl32, List.getD_cons_zero, List.getD_cons_succ, List.length_set, List.set_cons_zero, List.set_cons_succ, natI]
      refine x_callP (hPre) c_CutPrefix (by simp [evA, upd_app, ofVal, ofCell]) (by simp [AV.pure, AV.pureL, natA_pure, natI_pure, natS_pure]) (by simp [AV.pure, AV.pureL, natA_pure, natI_pure, natS_pure]) ?_
      simp (disch := omega) only [go_sem, ↓k_cond, ↓x_idx, ↓k_block, Nat.reduceEqDiff, ↓reduceIte, reduceCtorEq, if_pos, if_neg, decide_eq_true, decide_eq_false, beqT, beqF, bneT, bneF, wrapI, wrapU32, wrapU64, wrapU8, nc_add, nc_addL, nc_addR, nc_mul, nc_mulL, nc_mulR, nc_div, nc_divL, nc_mod, nc_modL, nc_1, nc_sub1, natA_at, natA_put, eatH_one, Int.toNat_natCast, Option.map_some, shr32, shl32, List.getD_cons_zero, List.getD_cons_succ, List.length_set, List.set_cons_zero, List.set_cons_succ, natI]
      refine x_callP (hN1) ci_readNat (by simp [evA, upd_app, ofVal, ofCell]) (by simp [AV.pure, AV.pureL, natA_pure, natI_pure, natS_pure]) (by simp [AV.pure, AV.pureL, natA_pure, natI_pure, natS_pure]) ?_
      simp (disch := omega) only [go_sem, ↓k_cond, ↓x_idx, ↓k_block, Nat.reduceEqDiff, ↓reduceIte, reduceCtorEq, if_pos, if_neg, decide_eq_true, decide_eq_false, beqT, beqF, bneT, bneF, wrapI, wrapU32, wrapU64, wrapU8, nc_add, nc_addL, nc_addR, nc_mul, nc_mulL, nc_mulR, nc_div, nc_divL, nc_mod, nc_modL, nc_1, nc_sub1, natA_at, natA_put, eatH_one, Int.toNat_natCast, Option.map_some, shr32, shl32, List.getD_cons_zero, List.getD_cons_succ, List.length_set, List.set_cons_zero, List.set_cons_succ, e0, List.length_nil]
      rw [← hQ]
      exact hfail _ (by first | (simp only [upd_app, ↓reduceIte, Nat.reduceEqDiff]; done) | (simp [upd_app]; done) | (simp [upd_app]; omega)) (by simp [upd_app]) (by simp [upd_app, zeroI]) (by first | (simp only [upd_app, ↓reduceIte, Nat.reduceEqDiff]; done) | (simp [upd_app]; done) | (simp [upd_app]; omega)) hpq
    · rw [if_pos hnz] at hpq
      have hvl : neg = true → 0 < (enc B32 v).length := fun h => enc_len_pos B32_gt (fun h0 => hnz ⟨h, h0⟩)
      have hzero : ∀ n : Nat, AV.el Tryd.prog 42 (.agg [.bool neg, natI v, natI n]) = true := fun n => el_iRat
      rcases hsec with ⟨rfl, hf⟩ | ⟨i, rfl, hf, rfl⟩
      · rw [hf] at hpq
        simp only at hpq
        cases neg with
        | false =>
          (refine callOk_of_wpc (W := fun _ => false) false hm' Tryd.func16 rfl (by kernel_rfl) (Nat.le_of_ble_eq_true rfl) (go_start ?_); generalize hQ : Post Tryd.prog Tryd.f16 _ _ _ _ _ = Q; simp only [stIn, matL, matA, st00])
          simp (disch := omega) only [go_sem, ↓k_cond, ↓x_idx, ↓k_block, Nat.reduceEqDiff, ↓reduceIte, reduceCtorEq, if_pos, if_neg, decide_eq_true, decide_eq_false, beqT, beqF, bneT, bneF, wrapI, wrapU32, wrapU64, wrapU8, nc_add, nc_addL, nc_addR, nc_mul, nc_mulL, nc_mulR, nc_div, nc_divL, nc_mod, nc_modL, nc_1, nc_sub1, natA_at, natA_put, eatH_one, Int.toNat_natCast, Option.map_some, shr32, shl32, List.getD_cons_zero, List.getD_cons_succ, List.length_set, List.set_cons_zero, List.set_cons_succ, zeroI, e0]
          refine x_callP (hCut') c_Cut (by simp [evA, upd_app, ofVal, ofCell]) (by simp [AV.pure, AV.pureL, natA_pure, natI_pure, natS_pure]) (by simp [AV.pure, AV.pureL, natA_pure, natI_pure, natS_pure]) ?_
          simp (disch := omega) only [go_sem, ↓k_cond, ↓x_idx, ↓k_block, Nat.reduceEqDiff, ↓reduceIte, reduceCtorEq, if_pos, if_neg, decide_eq_true, decide_eq_false, beqT, beqF, bneT, bneF, wrapI, wrapU32, wrapU64, wrapU8, nc_add, nc_addL, nc_addR, nc_mul, nc_mulL, nc_mulR, nc_div, nc_divL, nc_mod, nc_modL, nc_1, nc_sub1, natA_at, natA_put, eatH_one, Int.toNat_natCast, Option.map_some, shr32, shl32, List.getD_cons_zero, List.getD_cons_succ, List.length_set, List.set_cons_zero, List.set_cons_succ, natI]
          refine x_callP (hPre) c_CutPrefix (by simp [evA, upd_app, ofVal, ofCell]) (by simp [AV.pure, AV.pureL, natA_pure, natI_pure, natS_pure]) (by simp [AV.pure, AV.pureL, natA_pure, natI_pure, natS_pure]) ?_
          simp (disch := omega) only [go_sem, ↓k_cond, ↓x_idx, ↓k_block, Nat.reduceEqDiff, ↓reduceIte, reduceCtorEq, if_pos, if_neg, decide_eq_true, decide_eq_false, beqT, beqF, bneT, bneF, wrapI, wrapU32, wrapU64, wrapU8, nc_add, nc_addL, nc_addR, nc_mul, nc_mulL, nc_mulR, nc_div, nc_divL, nc_mod, nc_modL, nc_1, nc_sub1, natA_at, natA_put, eatH_one, Int.toNat_natCast, Option.map_some, shr32, shl32, List.getD_cons_zero, List.getD_cons_succ, List.length_set, List.set_cons_zero, List.set_cons_succ, natI]
          refine x_callP (hN1) ci_readNat (by simp [evA, upd_app, ofVal, ofCell]) (by simp [AV.pure, AV.pureL, natA_pure, natI_pure, natS_pure]) (by simp [AV.pure, AV.pureL, natA_pure, natI_pure, natS_pure]) ?_
          simp (disch := omega) only [go_sem, ↓k_cond, ↓x_idx, ↓k_block, Nat.reduceEqDiff, ↓reduceIte, reduceCtorEq, if_pos, if_neg, decide_eq_true, decide_eq_false, beqT, beqF, bneT, bneF, wrapI, wrapU32, wrapU64, wrapU8, nc_add, nc_addL, nc_addR, nc_mul, nc_mulL, nc_mulR, nc_div, nc_divL, nc_mod, nc_modL, nc_1, nc_sub1, natA_at, natA_put, eatH_one, Int.toNat_natCast, Option.map_some, shr32, shl32, List.getD_cons_zero, List.getD_cons_succ, List.length_set, List.set_cons_zero, List.set_cons_succ, natI]
          refine x_callP hone ci_natOf (by simp [evA, upd_app, ofVal, ofCell]) (by simp [AV.pure, AV.pureL]) (by simp) ?_
          simp (disch := omega) only [go_sem, ↓k_cond, ↓x_idx, ↓k_block, Nat.reduceEqDiff, ↓reduceIte, reduceCtorEq, if_pos, if_neg, decide_eq_true, decide_eq_false, beqT, beqF, bneT, bneF, wrapI, wrapU32, wrapU64, wrapU8, nc_add, nc_addL, nc_addR, nc_mul, nc_mulL, nc_mulR, nc_div, nc_divL, nc_mod, nc_modL, nc_1, nc_sub1, natA_at, natA_put, eatH_one, Int.toNat_natCast, Option.map_some, shr32, shl32, List.getD_cons_zero, List.getD_cons_succ, List.length_set, List.set_cons_zero, List.set_cons_succ, e0, natI, List.take_succ_cons, List.take_zero, ld_iRat]
          rw [← hQ]
          refine hgood _ (_, v, 1) ?_ ?_ ?_ ?_ hpq
          · exact (by first | (simp only [upd_app, ↓reduceIte, Nat.reduceEqDiff]; done) | (simp [upd_app]; done) | (simp [upd_app]; omega))
          · simp [upd_app]
          · simp only [upd_app, ↓reduceIte, ratI, natI]
          · exact (by first | (simp only [upd_app, ↓reduceIte, Nat.reduceEqDiff]; done) | (simp [upd_app]; done) | (simp [upd_app]; omega))
        | true =>
          have hvl' := hvl rfl
          (refine callOk_of_wpc (W := fun _ => false) false hm' Tryd.func16 rfl (by kernel_rfl) (Nat.le_of_ble_eq_true rfl) (go_start ?_); generalize hQ : Post Tryd.prog Tryd.f16 _ _ _ _ _ = Q; simp only [stIn, matL, matA, st00])
          simp (disch := omega) only [go_sem, ↓k_cond, ↓x_idx, ↓k_block, Nat.reduceEqDiff, ↓reduceIte, reduceCtorEq, if_pos, if_neg, decide_eq_true, decide_eq_false, beqT, beqF, bneT, bneF, wrapI, wrapU32, wrapU64, wrapU8, nc_add, nc_addL, nc_addR, nc_mul, nc_mulL, nc_mulR, nc_div, nc_divL, nc_mod, nc_modL, nc_1, nc_sub1, natA_at, natA_put, eatH_one, Int.toNat_natCast, Option.map_some, shr32, shl32, List.getD_cons_zero, List.getD_cons_succ, List.length_set, List.set_cons_zero, List.set_cons_succ, zeroI, e0]
          refine x_callP (hCut') c_Cut (by simp [evA, upd_app, ofVal, ofCell]) (by simp [AV.pure, AV.pureL, natA_pure, natI_pure, natS_pure]) (by simp [AV.pure, AV.pureL, natA_pure, natI_pure, natS_pure]) ?_
          simp (disch := omega) only [go_sem, ↓k_cond, ↓x_idx, ↓k_block, Nat.reduceEqDiff, ↓reduceIte, reduceCtorEq, if_pos, if_neg, decide_eq_true, decide_eq_false, beqT, beqF, bneT, bneF, wrapI, wrapU32, wrapU64, wrapU8, nc_add, nc_addL, nc_addR, nc_mul, nc_mulL, nc_mulR, nc_div, nc_divL, nc_mod, nc_modL, nc_1, nc_sub1, natA_at, natA_put, eatH_one, Int.toNat_natCast, Option.map_some, shr32, shl32, List.getD_cons_zero, List.getD_cons_succ, List.length_set, List.set_cons_zero, List.set_cons_succ, natI]
          refine x_callP (hPre) c_CutPrefix (by simp [evA, upd_app, ofVal, ofCell]) (by simp [AV.pure, AV.pureL, natA_pure, natI_pure, natS_pure]) (by simp [AV.pure, AV.pureL, natA_pure, natI_pure, natS_pure]) ?_
          simp (disch := omega) only [go_sem, ↓k_cond, ↓x_idx, ↓k_block, Nat.reduceEqDiff, ↓reduceIte, reduceCtorEq, if_pos, if_neg, decide_eq_true, decide_eq_false, beqT, beqF, bneT, bneF, wrapI, wrapU32, wrapU64, wrapU8, nc_add, nc_addL, nc_addR, nc_mul, nc_mulL, nc_mulR, nc_div, nc_divL, nc_mod, nc_modL, nc_1, nc_sub1, natA_at, natA_put, eatH_one, Int.toNat_natCast, Option.map_some, shr32, shl32, List.getD_cons_zero, List.getD_cons_succ, List.length_set, List.set_cons_zero, List.set_cons_succ, natI]
          refine x_callP (hN1) ci_readNat (by simp [evA, upd_app, ofVal, ofCell]) (by simp [AV.pure, AV.pureL, natA_pure, natI_pure, natS_pure]) (by simp [AV.pure, AV.pureL, natA_pure, natI_pure, natS_pure]) ?_
          simp (disch := omega) only [go_sem, ↓k_cond, ↓x_idx, ↓k_block, Nat.reduceEqDiff, ↓reduceIte, reduceCtorEq, if_pos, if_neg, decide_eq_true, decide_eq_false, beqT, beqF, bneT, bneF, wrapI, wrapU32, wrapU64, wrapU8, nc_add, nc_addL, nc_addR, nc_mul, nc_mulL, nc_mulR, nc_div, nc_divL, nc_mod, nc_modL, nc_1, nc_sub1, natA_at, natA_put, eatH_one, Int.toNat_natCast, Option.map_some, shr32, shl32, List.getD_cons_zero, List.getD_cons_succ, List.length_set, List.set_cons_zero, List.set_cons_succ, natI]
          refine x_callP hone ci_natOf (by simp [evA, upd_app, ofVal, ofCell]) (by simp [AV.pure, AV.pureL]) (by simp) ?_
          simp (disch := omega) only [go_sem, ↓k_cond, ↓x_idx, ↓k_block, Nat.reduceEqDiff, ↓reduceIte, reduceCtorEq, if_pos, if_neg, decide_eq_true, decide_eq_false, beqT, beqF, bneT, bneF, wrapI, wrapU32, wrapU64, wrapU8, nc_add, nc_addL, nc_addR, nc_mul, nc_mulL, nc_mulR, nc_div, nc_divL, nc_mod, nc_modL, nc_1, nc_sub1, natA_at, natA_put, eatH_one, Int.toNat_natCast, Option.map_some, shr32, shl32, List.getD_cons_zero, List.getD_cons_succ, List.length_set, List.set_cons_zero, List.set_cons_succ, e0, natI, List.take_succ_cons, List.take_zero, ld_iRat]
          rw [← hQ]
          refine hgood _ (_, v, 1) ?_ ?_ ?_ ?_ hpq
          · exact (by first | (simp only [upd_app, ↓reduceIte, Nat.reduceEqDiff]; done) | (simp [upd_app]; done) | (simp [upd_app]; omega))
          · simp [upd_app]
          · simp only [upd_app, ↓reduceIte, ratI, natI]
          · exact (by first | (simp only [upd_app, ↓reduceIte, Nat.reduceEqDiff]; done) | (simp [upd_app]; done) | (simp [upd_app]; omega))
      · rw [hf] at hpq
        simp only at hpq
        have hsl' : (s.drop (i + 1)).length ≤ s.length := by simp
        have hN2 := i_readNat (s.drop (i + 1)) (by omega)
        have htk2 : tokD (s.drop (i + 1)) = true → (enc B32 (dval (s.drop (i + 1)))).length ≤ 200 := fun h => by
          obtain ⟨_, b, c⟩ := tok_len h
          exact Nat.le_trans (dval_enc (by decide) c) b
        have he1 : (enc B32 1).length ≤ 1 := enc_len_le B32_gt (by decide)
        rcases Bool.eq_false_or_eq_true neg with rfl | rfl
        · have hvl' := hvl rfl
          cases hte : tokD (s.drop (i + 1)) with
          | false =>
            simp only [hte, Bool.false_eq_true, false_and, if_false] at hpq
            simp only [readNatV, hte, Bool.false_eq_true, if_false] at hN2
            (refine callOk_of_wpc (W := fun _ => false) false hm' Tryd.func16 rfl (by kernel_rfl) (Nat.le_of_ble_eq_true rfl) (go_start ?_); generalize hQ : Post Tryd.prog Tryd.f16 _ _ _ _ _ = Q; simp only [stIn, matL, matA, st00])
            simp (disch := omega) only [go_sem, ↓k_cond, ↓x_idx, ↓k_block, Nat.reduceEqDiff, ↓reduceIte, reduceCtorEq, if_pos, if_neg, decide_eq_true, decide_eq_false, beqT, beqF, bneT, bneF, wrapI, wrapU32, wrapU64, wrapU8, nc_add, nc_addL, nc_addR, nc_mul, nc_mulL, nc_mulR, nc_div, nc_divL, nc_mod, nc_modL, nc_1, nc_sub1, natA_at, natA_put, eatH_one, Int.toNat_natCast, Option.map_some, shr32, shl32, List.getD_cons_zero, List.getD_cons_succ, List.length_set, List.set_cons_zero, List.set_cons_succ, zeroI, e0]
            refine x_callP (hCut') c_Cut (by simp [evA, upd_app, ofVal, ofCell]) (by simp [AV.pure, AV.pureL, natA_pure, natI_pure, natS_pure]) (by simp [AV.pure, AV.pureL, natA_pure, natI_pure, natS_pure]) ?_
            simp (disch := omega) only [go_sem, ↓k_cond, ↓x_idx, ↓k_block, Nat.reduceEqDiff, ↓reduceIte, reduceCtorEq, if_pos, if_neg, decide_eq_true, decide_eq_false, beqT, beqF, bneT, bneF, wrapI, wrapU32, wrapU64, wrapU8, nc_add, nc_addL, nc_addR, nc_mul, nc_mulL, nc_mulR, nc_div, nc_divL, nc_mod, nc_modL, nc_1, nc_sub1, natA_at, natA_put, eatH_one, Int.toNat_natCast, Option.map_some, shr32, shl32, List.getD_cons_zero, List.getD_cons_succ, List.length_set, List.set_cons_zero, List.set_cons_succ, natI]
            refine x_callP (hPre) c_CutPrefix (by simp [evA, upd_app, ofVal, ofCell]) (by simp [AV.pure, AV.pureL, natA_pure, natI_pure, natS_pure]) (by simp [AV.pure, AV.pureL, natA_pure, natI_pure, natS_pure]) ?_
            simp (disch := omega) only [go_sem, ↓k_cond, ↓x_idx, ↓k_block, Nat.reduceEqDiff, ↓reduceIte, reduceCtorEq, if_pos, if_neg, decide_eq_true, decide_eq_false, beqT, beqF, bneT, bneF, wrapI, wrapU32, wrapU64, wrapU8, nc_add, nc_addL, nc_addR, nc_mul, nc_mulL, nc_mulR, nc_div, nc_divL, nc_mod, nc_modL, nc_1, nc_sub1, natA_at, natA_put, eatH_one, Int.toNat_natCast, Option.map_some, shr32, shl32, List.getD_cons_zero, List.getD_cons_succ, List.length_set, List.set_cons_zero, List.set_cons_succ, natI]
            refine x_callP (hN1) ci_readNat (by simp [evA, upd_app, ofVal, ofCell]) (by simp [AV.pure, AV.pureL, natA_pure, natI_pure, natS_pure]) (by simp [AV.pure, AV.pureL, natA_pure, natI_pure, natS_pure]) ?_
            simp (disch := omega) only [go_sem, ↓k_cond, ↓x_idx, ↓k_block, Nat.reduceEqDiff, ↓reduceIte, reduceCtorEq, if_pos, if_neg, decide_eq_true, decide_eq_false, beqT, beqF, bneT, bneF, wrapI, wrapU32, wrapU64, wrapU8, nc_add, nc_addL, nc_addR, nc_mul, nc_mulL, nc_mulR, nc_div, nc_divL, nc_mod, nc_modL, nc_1, nc_sub1, natA_at, natA_put, eatH_one, Int.toNat_natCast, Option.map_some, shr32, shl32, List.getD_cons_zero, List.getD_cons_succ, List.length_set, List.set_cons_zero, List.set_cons_succ, natI]
            refine x_callP hone ci_natOf (by simp [evA, upd_app, ofVal, ofCell]) (by simp [AV.pure, AV.pureL]) (by simp) ?_
            simp (disch := omega) only [go_sem, ↓k_cond, ↓x_idx, ↓k_block, Nat.reduceEqDiff, ↓reduceIte, reduceCtorEq, if_pos, if_neg, decide_eq_true, decide_eq_false, beqT, beqF, bneT, bneF, wrapI, wrapU32, wrapU64, wrapU8, nc_add, nc_addL, nc_addR, nc_mul, nc_mulL, nc_mulR, nc_div, nc_divL, nc_mod, nc_modL, nc_1, nc_sub1, natA_at, natA_put, eatH_one, Int.toNat_natCast, Option.map_some, shr32, shl32, List.getD_cons_zero, List.getD_cons_succ, List.length_set, List.set_cons_zero, List.set_cons_succ, e0, natI]
            refine x_callP (hN2) ci_readNat (by simp [evA, upd_app, ofVal, ofCell]) (by simp [AV.pure, AV.pureL, natA_pure, natI_pure, natS_pure]) (by simp [AV.pure, AV.pureL, natA_pure, natI_pure, natS_pure]) ?_
            simp (disch := omega) only [go_sem, ↓k_cond, ↓x_idx, ↓k_block, Nat.reduceEqDiff, ↓reduceIte, reduceCtorEq, if_pos, if_neg, decide_eq_true, decide_eq_false, beqT, beqF, bneT, bneF, wrapI, wrapU32, wrapU64, wrapU8, nc_add, nc_addL, nc_addR, nc_mul, nc_mulL, nc_mulR, nc_div, nc_divL, nc_mod, nc_modL, nc_1, nc_sub1, natA_at, natA_put, eatH_one, Int.toNat_natCast, Option.map_some, shr32, shl32, List.getD_cons_zero, List.getD_cons_succ, List.length_set, List.set_cons_zero, List.set_cons_succ, e0, natI]
            rw [← hQ]
            exact hfail _ (by first | (simp only [upd_app, ↓reduceIte, Nat.reduceEqDiff]; done) | (simp [upd_app]; done) | (simp [upd_app]; omega)) (by simp [upd_app]) (by simp [upd_app, zeroI]) (by first | (simp only [upd_app, ↓reduceIte, Nat.reduceEqDiff]; done) | (simp [upd_app]; done) | (simp [upd_app]; omega)) hpq
          | true =>
            have htl2 := htk2 hte
            simp only [hte, true_and] at hpq
            simp only [readNatV, hte, if_true] at hN2
            obtain ⟨u, hu⟩ : ∃ u, dval (s.drop (i + 1)) = u := ⟨_, rfl⟩
            rw [hu] at hN2 hpq htl2
            have hcmp := i_Cmp u 1 (by omega) (by omega)
            have hgcd := i_gcd v u (by omega) (by omega)
            by_cases hu1 : 1 < u
            · have hc1 : cmpI u 1 = 1 := cmpI_gt hu1
              rw [hc1] at hcmp
              obtain ⟨g, hg⟩ : ∃ g, Nat.gcd v u = g := ⟨_, rfl⟩
              rw [hg] at hgcd
              simp only [hg] at hpq
              have hgu : g ≤ u := by rw [← hg]; exact Nat.gcd_le_right v (by omega)
              have hgl := enc_len_mono B32_gt hgu
              have hcg := i_Cmp g 1 (by omega) (by omega)
              by_cases hg1 : g = 1
              · subst hg1
                rw [cmpI_eq] at hcg
                simp only [hu1, and_self, if_true] at hpq
                (refine callOk_of_wpc (W := fun _ => false) false hm' Tryd.func16 rfl (by kernel_rfl) (Nat.le_of_ble_eq_true rfl) (go_start ?_); generalize hQ : Post Tryd.prog Tryd.f16 _ _ _ _ _ = Q; simp only [stIn, matL, matA, st00])
                simp (disch := omega) only [go_sem, ↓k_cond, ↓x_idx, ↓k_block, Nat.reduceEqDiff, ↓reduceIte, reduceCtorEq, if_pos, if_neg, decide_eq_true, decide_eq_false, beqT, beqF, bneT, bneF, wrapI, wrapU32, wrapU64, wrapU8, nc_add, nc_addL, nc_addR, nc_mul, nc_mulL, nc_mulR, nc_div, nc_divL, nc_mod, nc_modL, nc_1, nc_sub1, natA_at, natA_put, eatH_one, Int.toNat_natCast, Option.map_some, shr32, shl32, List.getD_cons_zero, List.getD_cons_succ, List.length_set, List.set_cons_zero, List.set_cons_succ, zeroI, e0]
                refine x_callP (hCut') c_Cut (by simp [evA, upd_app, ofVal, ofCell]) (by simp [AV.pure, AV.pureL, natA_pure, natI_pure, natS_pure]) (by simp [AV.pure, AV.pureL, natA_pure, natI_pure, natS_pure]) ?_
                simp (disch := omega) only [go_sem, ↓k_cond, ↓x_idx, ↓k_block, Nat.reduceEqDiff, ↓reduceIte, reduceCtorEq, if_pos, if_neg, decide_eq_true, decide_eq_false, beqT, beqF, bneT, bneF, wrapI, wrapU32, wrapU64, wrapU8, nc_add, nc_addL, nc_addR, nc_mul, nc_mulL, nc_mulR, nc_div, nc_divL, nc_mod, nc_modL, nc_1, nc_sub1, natA_at, natA_put, eatH_one, Int.toNat_natCast, Option.map_some, shr32, shl32, List.getD_cons_zero, List.getD_cons_succ, List.length_set, List.set_cons_zero, List.set_cons_succ, natI]
                refine x_callP (hPre) c_CutPrefix (by simp [evA, upd_app, ofVal, ofCell]) (by simp [AV.pure, AV.pureL, natA_pure, natI_pure, natS_pure]) (by simp [AV.pure, AV.pureL, natA_pure, natI_pure, natS_pure]) ?_
                simp (disch := omega) only [go_sem, ↓k_cond, ↓x_idx, ↓k_block, Nat.reduceEqDiff, ↓reduceIte, reduceCtorEq, if_pos, if_neg, decide_eq_true, decide_eq_false, beqT, beqF, bneT, bneF, wrapI, wrapU32, wrapU64, wrapU8, nc_add, nc_addL, nc_addR, nc_mul, nc_mulL, nc_mulR, nc_div, nc_divL, nc_mod, nc_modL, nc_1, nc_sub1, natA_at, natA_put, eatH_one, Int.toNat_natCast, Option.map_some, shr32, shl32, List.getD_cons_zero, List.getD_cons_succ, List.length_set, List.set_cons_zero, List.set_cons_succ, natI]
                refine x_callP (hN1) ci_readNat (by simp [evA, upd_app, ofVal, ofCell]) (by simp [AV.pure, AV.pureL, natA_pure, natI_pure, natS_pure]) (by simp [AV.pure, AV.pureL, natA_pure, natI_pure, natS_pure]) ?_
                simp (disch := omega) only [go_sem, ↓k_cond, ↓x_idx, ↓k_block, Nat.reduceEqDiff, ↓reduceIte, reduceCtorEq, if_pos, if_neg, decide_eq_true, decide_eq_false, beqT, beqF, bneT, bneF, wrapI, wrapU32, wrapU64, wrapU8, nc_add, nc_addL, nc_addR, nc_mul, nc_mulL, nc_mulR, nc_div, nc_divL, nc_mod, nc_modL, nc_1, nc_sub1, natA_at, natA_put, eatH_one, Int.toNat_natCast, Option.map_some, shr32, shl32, List.getD_cons_zero, List.getD_cons_succ, List.length_set, List.set_cons_zero, List.set_cons_succ, natI]
                refine x_callP hone ci_natOf (by simp [evA, upd_app, ofVal, ofCell]) (by simp [AV.pure, AV.pureL]) (by simp) ?_
                simp (disch := omega) only [go_sem, ↓k_cond, ↓x_idx, ↓k_block, Nat.reduceEqDiff, ↓reduceIte, reduceCtorEq, if_pos, if_neg, decide_eq_true, decide_eq_false, beqT, beqF, bneT, bneF, wrapI, wrapU32, wrapU64, wrapU8, nc_add, nc_addL, nc_addR, nc_mul, nc_mulL, nc_mulR, nc_div, nc_divL, nc_mod, nc_modL, nc_1, nc_sub1, natA_at, natA_put, eatH_one, Int.toNat_natCast, Option.map_some, shr32, shl32, List.getD_cons_zero, List.getD_cons_succ, List.length_set, List.set_cons_zero, List.set_cons_succ, e0, natI]
                refine x_callP (hN2) ci_readNat (by simp [evA, upd_app, ofVal, ofCell]) (by simp [AV.pure, AV.pureL, natA_pure, natI_pure, natS_pure]) (by simp [AV.pure, AV.pureL, natA_pure, natI_pure, natS_pure]) ?_
                simp (disch := omega) only [go_sem, ↓k_cond, ↓x_idx, ↓k_block, Nat.reduceEqDiff, ↓reduceIte, reduceCtorEq, if_pos, if_neg, decide_eq_true, decide_eq_false, beqT, beqF, bneT, bneF, wrapI, wrapU32, wrapU64, wrapU8, nc_add, nc_addL, nc_addR, nc_mul, nc_mulL, nc_mulR, nc_div, nc_divL, nc_mod, nc_modL, nc_1, nc_sub1, natA_at, natA_put, eatH_one, Int.toNat_natCast, Option.map_some, shr32, shl32, List.getD_cons_zero, List.getD_cons_succ, List.length_set, List.set_cons_zero, List.set_cons_succ, natI]
                refine x_callP hone ci_natOf (by simp [evA, upd_app, ofVal, ofCell]) (by simp [AV.pure, AV.pureL]) (by simp) ?_
                simp (disch := omega) only [go_sem, ↓k_cond, ↓x_idx, ↓k_block, Nat.reduceEqDiff, ↓reduceIte, reduceCtorEq, if_pos, if_neg, decide_eq_true, decide_eq_false, beqT, beqF, bneT, bneF, wrapI, wrapU32, wrapU64, wrapU8, nc_add, nc_addL, nc_addR, nc_mul, nc_mulL, nc_mulR, nc_div, nc_divL, nc_mod, nc_modL, nc_1, nc_sub1, natA_at, natA_put, eatH_one, Int.toNat_natCast, Option.map_some, shr32, shl32, List.getD_cons_zero, List.getD_cons_succ, List.length_set, List.set_cons_zero, List.set_cons_succ, natI]
                refine x_callP hcmp ci_cmp (by simp [evA, upd_app, natI]) (by simp [AV.pureL]) rfl ?_
                simp (disch := omega) only [go_sem, ↓k_cond, ↓x_idx, ↓k_block, Nat.reduceEqDiff, ↓reduceIte, reduceCtorEq, if_pos, if_neg, decide_eq_true, decide_eq_false, beqT, beqF, bneT, bneF, wrapI, wrapU32, wrapU64, wrapU8, nc_add, nc_addL, nc_addR, nc_mul, nc_mulL, nc_mulR, nc_div, nc_divL, nc_mod, nc_modL, nc_1, nc_sub1, natA_at, natA_put, eatH_one, Int.toNat_natCast, Option.map_some, shr32, shl32, List.getD_cons_zero, List.getD_cons_succ, List.length_set, List.set_cons_zero, List.set_cons_succ, natI]
                refine x_callP hgcd ci_gcd (by simp [evA, upd_app, natI]) (by simp [AV.pureL]) (by simp) ?_
                simp (disch := omega) only [go_sem, ↓k_cond, ↓x_idx, ↓k_block, Nat.reduceEqDiff, ↓reduceIte, reduceCtorEq, if_pos, if_neg, decide_eq_true, decide_eq_false, beqT, beqF, bneT, bneF, wrapI, wrapU32, wrapU64, wrapU8, nc_add, nc_addL, nc_addR, nc_mul, nc_mulL, nc_mulR, nc_div, nc_divL, nc_mod, nc_modL, nc_1, nc_sub1, natA_at, natA_put, eatH_one, Int.toNat_natCast, Option.map_some, shr32, shl32, List.getD_cons_zero, List.getD_cons_succ, List.length_set, List.set_cons_zero, List.set_cons_succ, natI]
                refine x_callP hone ci_natOf (by simp [evA, upd_app, ofVal, ofCell]) (by simp [AV.pure, AV.pureL]) (by simp) ?_
                refine x_callP hcg ci_cmp (by simp [evA, upd_app, natI]) (by simp [AV.pureL]) rfl ?_
                simp (disch := omega) only [go_sem, ↓k_cond, ↓x_idx, ↓k_block, Nat.reduceEqDiff, ↓reduceIte, reduceCtorEq, if_pos, if_neg, decide_eq_true, decide_eq_false, beqT, beqF, bneT, bneF, wrapI, wrapU32, wrapU64, wrapU8, nc_add, nc_addL, nc_addR, nc_mul, nc_mulL, nc_mulR, nc_div, nc_divL, nc_mod, nc_modL, nc_1, nc_sub1, natA_at, natA_put, eatH_one, Int.toNat_natCast, Option.map_some, shr32, shl32, List.getD_cons_zero, List.getD_cons_succ, List.length_set, List.set_cons_zero, List.set_cons_succ, e0, natI]
                rw [← hQ]
                refine hgood _ (_, v, u) ?_ ?_ ?_ ?_ hpq
                · exact (by first | (simp only [upd_app, ↓reduceIte, Nat.reduceEqDiff]; done) | (simp [upd_app]; done) | (simp [upd_app]; omega))
                · simp [upd_app]
                · simp only [upd_app, ↓reduceIte, ratI, natI]
                · exact (by first | (simp only [upd_app, ↓reduceIte, Nat.reduceEqDiff]; done) | (simp [upd_app]; done) | (simp [upd_app]; omega))
              · have hcn : cmpI g 1 ≠ 0 := by
                  rcases Nat.lt_trichotomy g 1 with h | h | h
                  · rw [cmpI_lt h]; decide
                  · exact absurd h hg1
                  · rw [cmpI_gt h]; decide
                rw [if_neg (fun h => hg1 h.2)] at hpq
                (refine callOk_of_wpc (W := fun _ => false) false hm' Tryd.func16 rfl (by kernel_rfl) (Nat.le_of_ble_eq_true rfl) (go_start ?_); generalize hQ : Post Tryd.prog Tryd.f16 _ _ _ _ _ = Q; simp only [stIn, matL, matA, st00])
                simp (disch := omega) only [go_sem, ↓k_cond, ↓x_idx, ↓k_block, Nat.reduceEqDiff, ↓reduceIte, reduceCtorEq, if_pos, if_neg, decide_eq_true, decide_eq_false, beqT, beqF, bneT, bneF, wrapI, wrapU32, wrapU64, wrapU8, nc_add, nc_addL, nc_addR, nc_mul, nc_mulL, nc_mulR, nc_div, nc_divL, nc_mod, nc_modL, nc_1, nc_sub1, natA_at, natA_put, eatH_one, Int.toNat_natCast, Option.map_some, shr32, shl32, List.getD_cons_zero, List.getD_cons_succ, List.length_set, List.set_cons_zero, List.set_cons_succ, zeroI, e0]
                refine x_callP (hCut') c_Cut (by simp [evA, upd_app, ofVal, ofCell]) (by simp [AV.pure, AV.pureL, natA_pure, natI_pure, natS_pure]) (by simp [AV.pure, AV.pureL, natA_pure, natI_pure, natS_pure]) ?_
                simp (disch := omega) only [go_sem, ↓k_cond, ↓x_idx, ↓k_block, Nat.reduceEqDiff, ↓reduceIte, reduceCtorEq, if_pos, if_neg, decide_eq_true, decide_eq_false, beqT, beqF, bneT, bneF, wrapI, wrapU32, wrapU64, wrapU8, nc_add, nc_addL, nc_addR, nc_mul, nc_mulL, nc_mulR, nc_div, nc_divL, nc_mod, nc_modL, nc_1, nc_sub1, natA_at, natA_put, eatH_one, Int.toNat_natCast, Option.map_some, shr32, shl32, List.getD_cons_zero, List.getD_cons_succ, List.length_set, List.set_cons_zero, List.set_cons_succ, natI]
                refine x_callP (hPre) c_CutPrefix (by simp [evA, upd_app, ofVal, ofCell]) (by simp [AV.pure, AV.pureL, natA_pure, natI_pure, natS_pure]) (by simp [AV.pure, AV.pureL, natA_pure, natI_pure, natS_pure]) ?_
                simp (disch := omega) only [go_sem, ↓k_cond, ↓x_idx, ↓k_block, Nat.reduceEqDiff, ↓reduceIte, reduceCtorEq, if_pos, if_neg, decide_eq_true, decide_eq_false, beqT, beqF, bneT, bneF, wrapI, wrapU32, wrapU64, wrapU8, nc_add, nc_addL, nc_addR, nc_mul, nc_mulL, nc_mulR, nc_div, nc_divL, nc_mod, nc_modL, nc_1, nc_sub1, natA_at, natA_put, eatH_one, Int.toNat_natCast, Option.map_some, shr32, shl32, List.getD_cons_zero, List.getD_cons_succ, List.length_set, List.set_cons_zero, List.set_cons_succ, natI]
                refine x_callP (hN1) ci_readNat (by simp [evA, upd_app, ofVal, ofCell]) (by simp [AV.pure, AV.pureL, natA_pure, natI_pure, natS_pure]) (by simp [AV.pure, AV.pureL, natA_pure, natI_pure, natS_pure]) ?_
                simp (disch := omega) only [go_sem, ↓k_cond, ↓x_idx, ↓k_block, Nat.reduceEqDiff, ↓reduceIte, reduceCtorEq, if_pos, if_neg, decide_eq_true, decide_eq_false, beqT, beqF, bneT, bneF, wrapI, wrapU32, wrapU64, wrapU8, nc_add, nc_addL, nc_addR, nc_mul, nc_mulL, nc_mulR, nc_div, nc_divL, nc_mod, nc_modL, nc_1, nc_sub1, natA_at, natA_put, eatH_one, Int.toNat_natCast, Option.map_some, shr32, shl32, List.getD_cons_zero, List.getD_cons_succ, List.length_set, List.set_cons_zero, List.set_cons_succ, natI]
                refine x_callP hone ci_natOf (by simp [evA, upd_app, ofVal, ofCell]) (by simp [AV.pure, AV.pureL]) (by simp) ?_
                simp (disch := omega) only [go_sem, ↓k_cond, ↓x_idx, ↓k_block, Nat.reduceEqDiff, ↓reduceIte, reduceCtorEq, if_pos, if_neg, decide_eq_true, decide_eq_false, beqT, beqF, bneT, bneF, wrapI, wrapU32, wrapU64, wrapU8, nc_add, nc_addL, nc_addR, nc_mul, nc_mulL, nc_mulR, nc_div, nc_divL, nc_mod, nc_modL, nc_1, nc_sub1, natA_at, natA_put, eatH_one, Int.toNat_natCast, Option.map_some, shr32, shl32, List.getD_cons_zero, List.getD_cons_succ, List.length_set, List.set_cons_zero, List.set_cons_succ, e0, natI]
                refine x_callP (hN2) ci_readNat (by simp [evA, upd_app, ofVal, ofCell]) (by simp [AV.pure, AV.pureL, natA_pure, natI_pure, natS_pure]) (by simp [AV.pure, AV.pureL, natA_pure, natI_pure, natS_pure]) ?_
                simp (disch := omega) only [go_sem, ↓k_cond, ↓x_idx, ↓k_block, Nat.reduceEqDiff, ↓reduceIte, reduceCtorEq, if_pos, if_neg, decide_eq_true, decide_eq_false, beqT, beqF, bneT, bneF, wrapI, wrapU32, wrapU64, wrapU8, nc_add, nc_addL, nc_addR, nc_mul, nc_mulL, nc_mulR, nc_div, nc_divL, nc_mod, nc_modL, nc_1, nc_sub1, natA_at, natA_put, eatH_one, Int.toNat_natCast, Option.map_some, shr32, shl32, List.getD_cons_zero, List.getD_cons_succ, List.length_set, List.set_cons_zero, List.set_cons_succ, natI]
                refine x_callP hone ci_natOf (by simp [evA, upd_app, ofVal, ofCell]) (by simp [AV.pure, AV.pureL]) (by simp) ?_
                simp (disch := omega) only [go_sem, ↓k_cond, ↓x_idx, ↓k_block, Nat.reduceEqDiff, ↓reduceIte, reduceCtorEq, if_pos, if_neg, decide_eq_true, decide_eq_false, beqT, beqF, bneT, bneF, wrapI, wrapU32, wrapU64, wrapU8, nc_add, nc_addL, nc_addR, nc_mul, nc_mulL, nc_mulR, nc_div, nc_divL, nc_mod, nc_modL, nc_1, nc_sub1, natA_at, natA_put, eatH_one, Int.toNat_natCast, Option.map_some, shr32, shl32, List.getD_cons_zero, List.getD_cons_succ, List.length_set, List.set_cons_zero, List.set_cons_succ, natI]
                refine x_callP hcmp ci_cmp (by simp [evA, upd_app, natI]) (by simp [AV.pureL]) rfl ?_
                simp (disch := omega) only [go_sem, ↓k_cond, ↓x_idx, ↓k_block, Nat.reduceEqDiff, ↓reduceIte, reduceCtorEq, if_pos, if_neg, decide_eq_true, decide_eq_false, beqT, beqF, bneT, bneF, wrapI, wrapU32, wrapU64, wrapU8, nc_add, nc_addL, nc_addR, nc_mul, nc_mulL, nc_mulR, nc_div, nc_divL, nc_mod, nc_modL, nc_1, nc_sub1, natA_at, natA_put, eatH_one, Int.toNat_natCast, Option.map_some, shr32, shl32, List.getD_cons_zero, List.getD_cons_succ, List.length_set, List.set_cons_zero, List.set_cons_succ, natI]
                refine x_callP hgcd ci_gcd (by simp [evA, upd_app, natI]) (by simp [AV.pureL]) (by simp) ?_
                simp (disch := omega) only [go_sem, ↓k_cond, ↓x_idx, ↓k_block, Nat.reduceEqDiff, ↓reduceIte, reduceCtorEq, if_pos, if_neg, decide_eq_true, decide_eq_false, beqT, beqF, bneT, bneF, wrapI, wrapU32, wrapU64, wrapU8, nc_add, nc_addL, nc_addR, nc_mul, nc_mulL, nc_mulR, nc_div, nc_divL, nc_mod, nc_modL, nc_1, nc_sub1, natA_at, natA_put, eatH_one, Int.toNat_natCast, Option.map_some, shr32, shl32, List.getD_cons_zero, List.getD_cons_succ, List.length_set, List.set_cons_zero, List.set_cons_succ, natI]
                refine x_callP hone ci_natOf (by simp [evA, upd_app, ofVal, ofCell]) (by simp [AV.pure, AV.pureL]) (by simp) ?_
                refine x_callP hcg ci_cmp (by simp [evA, upd_app, natI]) (by simp [AV.pureL]) rfl ?_
                simp (disch := omega) only [go_sem, ↓k_cond, ↓x_idx, ↓k_block, Nat.reduceEqDiff, ↓reduceIte, reduceCtorEq, if_pos, if_neg, decide_eq_true, decide_eq_false, beqT, beqF, bneT, bneF, wrapI, wrapU32, wrapU64, wrapU8, nc_add, nc_addL, nc_addR, nc_mul, nc_mulL, nc_mulR, nc_div, nc_divL, nc_mod, nc_modL, nc_1, nc_sub1, natA_at, natA_put, eatH_one, Int.toNat_natCast, Option.map_some, shr32, shl32, List.getD_cons_zero, List.getD_cons_succ, List.length_set, List.set_cons_zero, List.set_cons_succ, e0, natI]
                rw [← hQ]
                exact hfail _ (by first | (simp only [upd_app, ↓reduceIte, Nat.reduceEqDiff]; done) | (simp [upd_app]; done) | (simp [upd_app]; omega)) (by simp [upd_app]) (by simp [upd_app, zeroI]) (by first | (simp only [upd_app, ↓reduceIte, Nat.reduceEqDiff]; done) | (simp [upd_app]; done) | (simp [upd_app]; omega)) hpq
            · have hc1 : cmpI u 1 ≤ 0 := by
                rcases Nat.lt_or_ge u 1 with h | h
                · rw [cmpI_lt h]; decide
                · rw [show u = 1 by omega, cmpI_eq]; decide
              rw [if_neg (fun h => hu1 h.1)] at hpq
              (refine callOk_of_wpc (W := fun _ => false) false hm' Tryd.func16 rfl (by kernel_rfl) (Nat.le_of_ble_eq_true rfl) (go_start ?_); generalize hQ : Post Tryd.prog Tryd.f16 _ _ _ _ _ = Q; simp only [stIn, matL, matA, st00])
              simp (disch := omega) only [go_sem, ↓k_cond, ↓x_idx, ↓k_block, Nat.reduceEqDiff, ↓reduceIte, reduceCtorEq, if_pos, if_neg, decide_eq_true, decide_eq_false, beqT, beqF, bneT, bneF, wrapI, wrapU32, wrapU64, wrapU8, nc_add, nc_addL, nc_addR, nc_mul, nc_mulL, nc_mulR, nc_div, nc_divL, nc_mod, nc_modL, nc_1, nc_sub1, natA_at, natA_put, eatH_one, Int.toNat_natCast, Option.map_some, shr32, shl32, List.getD_cons_zero, List.getD_cons_succ, List.length_set, List.set_cons_zero, List.set_cons_succ, zeroI, e0]
              refine x_callP (hCut') c_Cut (by simp [evA, upd_app, ofVal, ofCell]) (by simp [AV.pure, AV.pureL, natA_pure, natI_pure, natS_pure]) (by simp [AV.pure, AV.pureL, natA_pure, natI_pure, natS_pure]) ?_
              simp (disch := omega) only [go_sem, ↓k_cond, ↓x_idx, ↓k_block, Nat.reduceEqDiff, ↓reduceIte, reduceCtorEq, if_pos, if_neg, decide_eq_true, decide_eq_false, beqT, beqF, bneT, bneF, wrapI, wrapU32, wrapU64, wrapU8, nc_add, nc_addL, nc_addR, nc_mul, nc_mulL, nc_mulR, nc_div, nc_divL, nc_mod, nc_modL, nc_1, nc_sub1, natA_at, natA_put, eatH_one, Int.toNat_natCast, Option.map_some, shr32, shl32, List.getD_cons_zero, List.getD_cons_succ, List.length_set, List.set_cons_zero, List.set_cons_succ, natI]
              refine x_callP (hPre) c_CutPrefix (by simp [evA, upd_app, ofVal, ofCell]) (by simp [AV.pure, AV.pureL, natA_pure, natI_pure, natS_pure]) (by simp [AV.pure, AV.pureL, natA_pure, natI_pure, natS_pure]) ?_
              simp (disch := omega) only [go_sem, ↓k_cond, ↓x_idx, ↓k_block, Nat.reduceEqDiff, ↓reduceIte, reduceCtorEq, if_pos, if_neg, decide_eq_true, decide_eq_false, beqT, beqF, bneT, bneF, wrapI, wrapU32, wrapU64, wrapU8, nc_add, nc_addL, nc_addR, nc_mul, nc_mulL, nc_mulR, nc_div, nc_divL, nc_mod, nc_modL, nc_1, nc_sub1, natA_at, natA_put, eatH_one, Int.toNat_natCast, Option.map_some, shr32, shl32, List.getD_cons_zero, List.getD_cons_succ, List.length_set, List.set_cons_zero, List.set_cons_succ, natI]
              refine x_callP (hN1) ci_readNat (by simp [evA, upd_app, ofVal, ofCell]) (by simp [AV.pure, AV.pureL, natA_pure, natI_pure, natS_pure]) (by simp [AV.pure, AV.pureL, natA_pure, natI_pure, natS_pure]) ?_
              simp (disch := omega) only [go_sem, ↓k_cond, ↓x_idx, ↓k_block, Nat.reduceEqDiff, ↓reduceIte, reduceCtorEq, if_pos, if_neg, decide_eq_true, decide_eq_false, beqT, beqF, bneT, bneF, wrapI, wrapU32, wrapU64, wrapU8, nc_add, nc_addL, nc_addR, nc_mul, nc_mulL, nc_mulR, nc_div, nc_divL, nc_mod, nc_modL, nc_1, nc_sub1, natA_at, natA_put, eatH_one, Int.toNat_natCast, Option.map_some, shr32, shl32, List.getD_cons_zero, List.getD_cons_succ, List.length_set, List.set_cons_zero, List.set_cons_succ, natI]
              refine x_callP hone ci_natOf (by simp [evA, upd_app, ofVal, ofCell]) (by simp [AV.pure, AV.pureL]) (by simp) ?_
              simp (disch := omega) only [go_sem, ↓k_cond, ↓x_idx, ↓k_block, Nat.reduceEqDiff, ↓reduceIte, reduceCtorEq, if_pos, if_neg, decide_eq_true, decide_eq_false, beqT, beqF, bneT, bneF, wrapI, wrapU32, wrapU64, wrapU8, nc_add, nc_addL, nc_addR, nc_mul, nc_mulL, nc_mulR, nc_div, nc_divL, nc_mod, nc_modL, nc_1, nc_sub1, natA_at, natA_put, eatH_one, Int.toNat_natCast, Option.map_some, shr32, shl32, List.getD_cons_zero, List.getD_cons_succ, List.length_set, List.set_cons_zero, List.set_cons_succ, e0, natI]
              refine x_callP (hN2) ci_readNat (by simp [evA, upd_app, ofVal, ofCell]) (by simp [AV.pure, AV.pureL, natA_pure, natI_pure, natS_pure]) (by simp [AV.pure, AV.pureL, natA_pure, natI_pure, natS_pure]) ?_
              simp (disch := omega) only [go_sem, ↓k_cond, ↓x_idx, ↓k_block, Nat.reduceEqDiff, ↓reduceIte, reduceCtorEq, if_pos, if_neg, decide_eq_true, decide_eq_false, beqT, beqF, bneT, bneF, wrapI, wrapU32, wrapU64, wrapU8, nc_add, nc_addL, nc_addR, nc_mul, nc_mulL, nc_mulR, nc_div, nc_divL, nc_mod, nc_modL, nc_1, nc_sub1, natA_at, natA_put, eatH_one, Int.toNat_natCast, Option.map_some, shr32, shl32, List.getD_cons_zero, List.getD_cons_succ, List.length_set, List.set_cons_zero, List.set_cons_succ, natI]
              refine x_callP hone ci_natOf (by simp [evA, upd_app, ofVal, ofCell]) (by simp [AV.pure, AV.pureL]) (by simp) ?_
              simp (disch := omega) only [go_sem, ↓k_cond, ↓x_idx, ↓k_block, Nat.reduceEqDiff, ↓reduceIte, reduceCtorEq, if_pos, if_neg, decide_eq_true, decide_eq_false, beqT, beqF, bneT, bneF, wrapI, wrapU32, wrapU64, wrapU8, nc_add, nc_addL, nc_addR, nc_mul, nc_mulL, nc_mulR, nc_div, nc_divL, nc_mod, nc_modL, nc_1, nc_sub1, natA_at, natA_put, eatH_one, Int.toNat_natCast, Option.map_some, shr32, shl32, List.getD_cons_zero, List.getD_cons_succ, List.length_set, List.set_cons_zero, List.set_cons_succ, natI]
              refine x_callP hcmp ci_cmp (by simp [evA, upd_app, natI]) (by simp [AV.pureL]) rfl ?_
              simp (disch := omega) only [go_sem, ↓k_cond, ↓x_idx, ↓k_block, Nat.reduceEqDiff, ↓reduceIte, reduceCtorEq, if_pos, if_neg, decide_eq_true, decide_eq_false, beqT, beqF, bneT, bneF, wrapI, wrapU32, wrapU64, wrapU8, nc_add, nc_addL, nc_addR, nc_mul, nc_mulL, nc_mulR, nc_div, nc_divL, nc_mod, nc_modL, nc_1, nc_sub1, natA_at, natA_put, eatH_one, Int.toNat_natCast, Option.map_some, shr32, shl32, List.getD_cons_zero, List.getD_cons_succ, List.length_set, List.set_cons_zero, List.set_cons_succ, e0, natI]
              rw [← hQ]
              exact hfail _ (by first | (simp only [upd_app, ↓reduceIte, Nat.reduceEqDiff]; done) | (simp [upd_app]; done) | (simp [upd_app]; omega)) (by simp [upd_app]) (by simp [upd_app, zeroI]) (by first | (simp only [upd_app, ↓reduceIte, Nat.reduceEqDiff]; done) | (simp [upd_app]; done) | (simp [upd_app]; omega)) hpq
        · skip
          cases hte : tokD (s.drop (i + 1)) with
          | false =>
            simp only [hte, Bool.false_eq_true, false_and, if_false] at hpq
            simp only [readNatV, hte, Bool.false_eq_true, if_false] at hN2
            (refine callOk_of_wpc (W := fun _ => false) false hm' Tryd.func16 rfl (by kernel_rfl) (Nat.le_of_ble_eq_true rfl) (go_start ?_); generalize hQ : Post Tryd.prog Tryd.f16 _ _ _ _ _ = Q; simp only [stIn, matL, matA, st00])
            simp (disch := omega) only [go_sem, ↓k_cond, ↓x_idx, ↓k_block, Nat.reduceEqDiff, ↓reduceIte, reduceCtorEq, if_pos, if_neg, decide_eq_true, decide_eq_false, beqT, beqF, bneT, bneF, wrapI, wrapU32, wrapU64, wrapU8, nc_add, nc_addL, nc_addR, nc_mul, nc_mulL, nc_mulR, nc_div, nc_divL, nc_mod, nc_modL, nc_1, nc_sub1, natA_at, natA_put, eatH_one, Int.toNat_natCast, Option.map_some, shr32, shl32, List.getD_cons_zero, List.getD_cons_succ, List.length_set, List.set_cons_zero, List.set_cons_succ, zeroI, e0]
            refine x_callP (hCut') c_Cut (by simp [evA, upd_app, ofVal, ofCell]) (by simp [AV.pure, AV.pureL, natA_pure, natI_pure, natS_pure]) (by simp [AV.pure, AV.pureL, natA_pure, natI_pure, natS_pure]) ?_
            simp (disch := omega) only [go_sem, ↓k_cond, ↓x_idx, ↓k_block, Nat.reduceEqDiff, ↓reduceIte, reduceCtorEq, if_pos, if_neg, decide_eq_true, decide_eq_false, beqT, beqF, bneT, bneF, wrapI, wrapU32, wrapU64, wrapU8, nc_add, nc_addL, nc_addR, nc_mul, nc_mulL, nc_mulR, nc_div, nc_divL, nc_mod, nc_modL, nc_1, nc_sub1, natA_at, natA_put, eatH_one, Int.toNat_natCast, Option.map_some, shr32, shl32, List.getD_cons_zero, List.getD_cons_succ, List.length_set, List.set_cons_zero, List.set_cons_succ, natI]
            refine x_callP (hPre) c_CutPrefix (by simp [evA, upd_app, ofVal, ofCell]) (by simp [AV.pure, AV.pureL, natA_pure, natI_pure, natS_pure]) (by simp [AV.pure, AV.pureL, natA_pure, natI_pure, natS_pure]) ?_
            simp (disch := omega) only [go_sem, ↓k_cond, ↓x_idx, ↓k_block, Nat.reduceEqDiff, ↓reduceIte, reduceCtorEq, if_pos, if_neg, decide_eq_true, decide_eq_false, beqT, beqF, bneT, bneF, wrapI, wrapU32, wrapU64, wrapU8, nc_add, nc_addL, nc_addR, nc_mul, nc_mulL, nc_mulR, nc_div, nc_divL, nc_mod, nc_modL, nc_1, nc_sub1, natA_at, natA_put, eatH_one, Int.toNat_natCast, Option.map_some, shr32, shl32, List.getD_cons_zero, List.getD_cons_succ, List.length_set, List.set_cons_zero, List.set_cons_succ, natI]
            refine x_callP (hN1) ci_readNat (by simp [evA, upd_app, ofVal, ofCell]) (by simp [AV.pure, AV.pureL, natA_pure, natI_pure, natS_pure]) (by simp [AV.pure, AV.pureL, natA_pure, natI_pure, natS_pure]) ?_
            simp (disch := omega) only [go_sem, ↓k_cond, ↓x_idx, ↓k_block, Nat.reduceEqDiff, ↓reduceIte, reduceCtorEq, if_pos, if_neg, decide_eq_true, decide_eq_false, beqT, beqF, bneT, bneF, wrapI, wrapU32, wrapU64, wrapU8, nc_add, nc_addL, nc_addR, nc_mul, nc_mulL, nc_mulR, nc_div, nc_divL, nc_mod, nc_modL, nc_1, nc_sub1, natA_at, natA_put, eatH_one, Int.toNat_natCast, Option.map_some, shr32, shl32, List.getD_cons_zero, List.getD_cons_succ, List.length_set, List.set_cons_zero, List.set_cons_succ, natI]
            refine x_callP hone ci_natOf (by simp [evA, upd_app, ofVal, ofCell]) (by simp [AV.pure, AV.pureL]) (by simp) ?_
            simp (disch := omega) only [go_sem, ↓k_cond, ↓x_idx, ↓k_block, Nat.reduceEqDiff, ↓reduceIte, reduceCtorEq, if_pos, if_neg, decide_eq_true, decide_eq_false, beqT, beqF, bneT, bneF, wrapI, wrapU32, wrapU64, wrapU8, nc_add, nc_addL, nc_addR, nc_mul, nc_mulL, nc_mulR, nc_div, nc_divL, nc_mod, nc_modL, nc_1, nc_sub1, natA_at, natA_put, eatH_one, Int.toNat_natCast, Option.map_some, shr32, shl32, List.getD_cons_zero, List.getD_cons_succ, List.length_set, List.set_cons_zero, List.set_cons_succ, e0, natI]
            refine x_callP (hN2) ci_readNat (by simp [evA, upd_app, ofVal, ofCell]) (by simp [AV.pure, AV.pureL, natA_pure, natI_pure, natS_pure]) (by simp [AV.pure, AV.pureL, natA_pure, natI_pure, natS_pure]) ?_
            simp (disch := omega) only [go_sem, ↓k_cond, ↓x_idx, ↓k_block, Nat.reduceEqDiff, ↓reduceIte, reduceCtorEq, if_pos, if_neg, decide_eq_true, decide_eq_false, beqT, beqF, bneT, bneF, wrapI, wrapU32, wrapU64, wrapU8, nc_add, nc_addL, nc_addR, nc_mul, nc_mulL, nc_mulR, nc_div, nc_divL, nc_mod, nc_modL, nc_1, nc_sub1, natA_at, natA_put, eatH_one, Int.toNat_natCast, Option.map_some, shr32, shl32, List.getD_cons_zero, List.getD_cons_succ, List.length_set, List.set_cons_zero, List.set_cons_succ, e0, natI]
            rw [← hQ]
            exact hfail _ (by first | (simp only [upd_app, ↓reduceIte, Nat.reduceEqDiff]; done) | (simp [upd_app]; done) | (simp [upd_app]; omega)) (by simp [upd_app]) (by simp [upd_app, zeroI]) (by first | (simp only [upd_app, ↓reduceIte, Nat.reduceEqDiff]; done) | (simp [upd_app]; done) | (simp [upd_app]; omega)) hpq
          | true =>
            have htl2 := htk2 hte
            simp only [hte, true_and] at hpq
            simp only [readNatV, hte, if_true] at hN2
            obtain ⟨u, hu⟩ : ∃ u, dval (s.drop (i + 1)) = u := ⟨_, rfl⟩
            rw [hu] at hN2 hpq htl2
            have hcmp := i_Cmp u 1 (by omega) (by omega)
            have hgcd := i_gcd v u (by omega) (by omega)
            by_cases hu1 : 1 < u
            · have hc1 : cmpI u 1 = 1 := cmpI_gt hu1
              rw [hc1] at hcmp
              obtain ⟨g, hg⟩ : ∃ g, Nat.gcd v u = g := ⟨_, rfl⟩
              rw [hg] at hgcd
              simp only [hg] at hpq
              have hgu : g ≤ u := by rw [← hg]; exact Nat.gcd_le_right v (by omega)
              have hgl := enc_len_mono B32_gt hgu
              have hcg := i_Cmp g 1 (by omega) (by omega)
              by_cases hg1 : g = 1
              · subst hg1
                rw [cmpI_eq] at hcg
                simp only [hu1, and_self, if_true] at hpq
                (refine callOk_of_wpc (W := fun _ => false) false hm' Tryd.func16 rfl (by kernel_rfl) (Nat.le_of_ble_eq_true rfl) (go_start ?_); generalize hQ : Post Tryd.prog Tryd.f16 _ _ _ _ _ = Q; simp only [stIn, matL, matA, st00])
                simp (disch := omega) only [go_sem, ↓k_cond, ↓x_idx, ↓k_block, Nat.reduceEqDiff, ↓reduceIte, reduceCtorEq, if_pos, if_neg, decide_eq_true, decide_eq_false, beqT, beqF, bneT, bneF, wrapI, wrapU32, wrapU64, wrapU8, nc_add, nc_addL, nc_addR, nc_mul, nc_mulL, nc_mulR, nc_div, nc_divL, nc_mod, nc_modL, nc_1, nc_sub1, natA_at, natA_put, eatH_one, Int.toNat_natCast, Option.map_some, shr32, shl32, List.getD_cons_zero, List.getD_cons_succ, List.length_set, List.set_cons_zero, List.set_cons_succ, zeroI, e0]
                refine x_callP (hCut') c_Cut (by simp [evA, upd_app, ofVal, ofCell]) (by simp [AV.pure, AV.pureL, natA_pure, natI_pure, natS_pure]) (by simp [AV.pure, AV.pureL, natA_pure, natI_pure, natS_pure]) ?_
                simp (disch := omega) only [go_sem, ↓k_cond, ↓x_idx, ↓k_block, Nat.reduceEqDiff, ↓reduceIte, reduceCtorEq, if_pos, if_neg, decide_eq_true, decide_eq_false, beqT, beqF, bneT, bneF, wrapI, wrapU32, wrapU64, wrapU8, nc_add, nc_addL, nc_addR, nc_mul, nc_mulL, nc_mulR, nc_div, nc_divL, nc_mod, nc_modL, nc_1, nc_sub1, natA_at, natA_put, eatH_one, Int.toNat_natCast, Option.map_some, shr32, shl32, List.getD_cons_zero, List.getD_cons_succ, List.length_set, List.set_cons_zero, List.set_cons_succ, natI]
                refine x_callP (hPre) c_CutPrefix (by simp [evA, upd_app, ofVal, ofCell]) (by simp [AV.pure, AV.pureL, natA_pure, natI_pure, natS_pure]) (by simp [AV.pure, AV.pureL, natA_pure, natI_pure, natS_pure]) ?_
                simp (disch := omega) only [go_sem, ↓k_cond, ↓x_idx, ↓k_block, Nat.reduceEqDiff, ↓reduceIte, reduceCtorEq, if_pos, if_neg, decide_eq_true, decide_eq_false, beqT, beqF, bneT, bneF, wrapI, wrapU32, wrapU64, wrapU8, nc_add, nc_addL, nc_addR, nc_mul, nc_mulL, nc_mulR, nc_div, nc_divL, nc_mod, nc_modL, nc_1, nc_sub1, natA_at, natA_put, eatH_one, Int.toNat_natCast, Option.map_some, shr32, shl32, List.getD_cons_zero, List.getD_cons_succ, List.length_set, List.set_cons_zero, List.set_cons_succ, natI]
                refine x_callP (hN1) ci_readNat (by simp [evA, upd_app, ofVal, ofCell]) (by simp [AV.pure, AV.pureL, natA_pure, natI_pure, natS_pure]) (by simp [AV.pure, AV.pureL, natA_pure, natI_pure, natS_pure]) ?_
                simp (disch := omega) only [go_sem, ↓k_cond, ↓x_idx, ↓k_block, Nat.reduceEqDiff, ↓reduceIte, reduceCtorEq, if_pos, if_neg, decide_eq_true, decide_eq_false, beqT, beqF, bneT, bneF, wrapI, wrapU32, wrapU64, wrapU8, nc_add, nc_addL, nc_addR, nc_mul, nc_mulL, nc_mulR, nc_div, nc_divL, nc_mod, nc_modL, nc_1, nc_sub1, natA_at, natA_put, eatH_one, Int.toNat_natCast, Option.map_some, shr32, shl32, List.getD_cons_zero, List.getD_cons_succ, List.length_set, List.set_cons_zero, List.set_cons_succ, natI]
                refine x_callP hone ci_natOf (by simp [evA, upd_app, ofVal, ofCell]) (by simp [AV.pure, AV.pureL]) (by simp) ?_
                simp (disch := omega) only [go_sem, ↓k_cond, ↓x_idx, ↓k_block, Nat.reduceEqDiff, ↓reduceIte, reduceCtorEq, if_pos, if_neg, decide_eq_true, decide_eq_false, beqT, beqF, bneT, bneF, wrapI, wrapU32, wrapU64, wrapU8, nc_add, nc_addL, nc_addR, nc_mul, nc_mulL, nc_mulR, nc_div, nc_divL, nc_mod, nc_modL, nc_1, nc_sub1, natA_at, natA_put, eatH_one, Int.toNat_natCast, Option.map_some, shr32, shl32, List.getD_cons_zero, List.getD_cons_succ, List.length_set, List.set_cons_zero, List.set_cons_succ, e0, natI]
                refine x_callP (hN2) ci_readNat (by simp [evA, upd_app, ofVal, ofCell]) (by simp [AV.pure, AV.pureL, natA_pure, natI_pure, natS_pure]) (by simp [AV.pure, AV.pureL, natA_pure, natI_pure, natS_pure]) ?_
                simp (disch := omega) only [go_sem, ↓k_cond, ↓x_idx, ↓k_block, Nat.reduceEqDiff, ↓reduceIte, reduceCtorEq, if_pos, if_neg, decide_eq_true, decide_eq_false, beqT, beqF, bneT, bneF, wrapI, wrapU32, wrapU64, wrapU8, nc_add, nc_addL, nc_addR, nc_mul, nc_mulL, nc_mulR, nc_div, nc_divL, nc_mod, nc_modL, nc_1, nc_sub1, natA_at, natA_put, eatH_one, Int.toNat_natCast, Option.map_some, shr32, shl32, List.getD_cons_zero, List.getD_cons_succ, List.length_set, List.set_cons_zero, List.set_cons_succ, natI]
                refine x_callP hone ci_natOf (by simp [evA, upd_app, ofVal, ofCell]) (by simp [AV.pure, AV.pureL]) (by simp) ?_
                simp (disch := omega) only [go_sem, ↓k_cond, ↓x_idx, ↓k_block, Nat.reduceEqDiff, ↓reduceIte, reduceCtorEq, if_pos, if_neg, decide_eq_true, decide_eq_false, beqT, beqF, bneT, bneF, wrapI, wrapU32, wrapU64, wrapU8, nc_add, nc_addL, nc_addR, nc_mul, nc_mulL, nc_mulR, nc_div, nc_divL, nc_mod, nc_modL, nc_1, nc_sub1, natA_at, natA_put, eatH_one, Int.toNat_natCast, Option.map_some, shr32, shl32, List.getD_cons_zero, List.getD_cons_succ, List.length_set, List.set_cons_zero, List.set_cons_succ, natI]
                refine x_callP hcmp ci_cmp (by simp [evA, upd_app, natI]) (by simp [AV.pureL]) rfl ?_
                simp (disch := omega) only [go_sem, ↓k_cond, ↓x_idx, ↓k_block, Nat.reduceEqDiff, ↓reduceIte, reduceCtorEq, if_pos, if_neg, decide_eq_true, decide_eq_false, beqT, beqF, bneT, bneF, wrapI, wrapU32, wrapU64, wrapU8, nc_add, nc_addL, nc_addR, nc_mul, nc_mulL, nc_mulR, nc_div, nc_divL, nc_mod, nc_modL, nc_1, nc_sub1, natA_at, natA_put, eatH_one, Int.toNat_natCast, Option.map_some, shr32, shl32, List.getD_cons_zero, List.getD_cons_succ, List.length_set, List.set_cons_zero, List.set_cons_succ, natI]
                refine x_callP hgcd ci_gcd (by simp [evA, upd_app, natI]) (by simp [AV.pureL]) (by simp) ?_
                simp (disch := omega) only [go_sem, ↓k_cond, ↓x_idx, ↓k_block, Nat.reduceEqDiff, ↓reduceIte, reduceCtorEq, if_pos, if_neg, decide_eq_true, decide_eq_false, beqT, beqF, bneT, bneF, wrapI, wrapU32, wrapU64, wrapU8, nc_add, nc_addL, nc_addR, nc_mul, nc_mulL, nc_mulR, nc_div, nc_divL, nc_mod, nc_modL, nc_1, nc_sub1, natA_at, natA_put, eatH_one, Int.toNat_natCast, Option.map_some, shr32, shl32, List.getD_cons_zero, List.getD_cons_succ, List.length_set, List.set_cons_zero, List.set_cons_succ, natI]
                refine x_callP hone ci_natOf (by simp [evA, upd_app, ofVal, ofCell]) (by simp [AV.pure, AV.pureL]) (by simp) ?_
                refine x_callP hcg ci_cmp (by simp [evA, upd_app, natI]) (by simp [AV.pureL]) rfl ?_
                simp (disch := omega) only [go_sem, ↓k_cond, ↓x_idx, ↓k_block, Nat.reduceEqDiff, ↓reduceIte, reduceCtorEq, if_pos, if_neg, decide_eq_true, decide_eq_false, beqT, beqF, bneT, bneF, wrapI, wrapU32, wrapU64, wrapU8, nc_add, nc_addL, nc_addR, nc_mul, nc_mulL, nc_mulR, nc_div, nc_divL, nc_mod, nc_modL, nc_1, nc_sub1, natA_at, natA_put, eatH_one, Int.toNat_natCast, Option.map_some, shr32, shl32, List.getD_cons_zero, List.getD_cons_succ, List.length_set, List.set_cons_zero, List.set_cons_succ, e0, natI]
                rw [← hQ]
                refine hgood _ (_, v, u) ?_ ?_ ?_ ?_ hpq
                · exact (by first | (simp only [upd_app, ↓reduceIte, Nat.reduceEqDiff]; done) | (simp [upd_app]; done) | (simp [upd_app]; omega))
                · simp [upd_app]
                · simp only [upd_app, ↓reduceIte, ratI, natI]
                · exact (by first | (simp only [upd_app, ↓reduceIte, Nat.reduceEqDiff]; done) | (simp [upd_app]; done) | (simp [upd_app]; omega))
              · have hcn : cmpI g 1 ≠ 0 := by
                  rcases Nat.lt_trichotomy g 1 with h | h | h
                  · rw [cmpI_lt h]; decide
                  · exact absurd h hg1
                  · rw [cmpI_gt h]; decide
                rw [if_neg (fun h => hg1 h.2)] at hpq
                (refine callOk_of_wpc (W := fun _ => false) false hm' Tryd.func16 rfl (by kernel_rfl) (Nat.le_of_ble_eq_true rfl) (go_start ?_); generalize hQ : Post Tryd.prog Tryd.f16 _ _ _ _ _ = Q; simp only [stIn, matL, matA, st00])
                simp (disch := omega) only [go_sem, ↓k_cond, ↓x_idx, ↓k_block, Nat.reduceEqDiff, ↓reduceIte, reduceCtorEq, if_pos, if_neg, decide_eq_true, decide_eq_false, beqT, beqF, bneT, bneF, wrapI, wrapU32, wrapU64, wrapU8, nc_add, nc_addL, nc_addR, nc_mul, nc_mulL, nc_mulR, nc_div, nc_divL, nc_mod, nc_modL, nc_1, nc_sub1, natA_at, natA_put, eatH_one, Int.toNat_natCast, Option.map_some, shr32, shl32, List.getD_cons_zero, List.getD_cons_succ, List.length_set, List.set_cons_zero, List.set_cons_succ, zeroI, e0]
                refine x_callP (hCut') c_Cut (by simp [evA, upd_app, ofVal, ofCell]) (by simp [AV.pure, AV.pureL, natA_pure, natI_pure, natS_pure]) (by simp [AV.pure, AV.pureL, natA_pure, natI_pure, natS_pure]) ?_
                simp (disch := omega) only [go_sem, ↓k_cond, ↓x_idx, ↓k_block, Nat.reduceEqDiff, ↓reduceIte, reduceCtorEq, if_pos, if_neg, decide_eq_true, decide_eq_false, beqT, beqF, bneT, bneF, wrapI, wrapU32, wrapU64, wrapU8, nc_add, nc_addL, nc_addR, nc_mul, nc_mulL, nc_mulR, nc_div, nc_divL, nc_mod, nc_modL, nc_1, nc_sub1, natA_at, natA_put, eatH_one, Int.toNat_natCast, Option.map_some, shr32, shl32, List.getD_cons_zero, List.getD_cons_succ, List.length_set, List.set_cons_zero, List.set_cons_succ, natI]
                refine x_callP (hPre) c_CutPrefix (by simp [evA, upd_app, ofVal, ofCell]) (by simp [AV.pure, AV.pureL, natA_pure, natI_pure, natS_pure]) (by simp [AV.pure, AV.pureL, natA_pure, natI_pure, natS_pure]) ?_
                simp (disch := omega) only [go_sem, ↓k_cond, ↓x_idx, ↓k_block, Nat.reduceEqDiff, ↓reduceIte, reduceCtorEq, if_pos, if_neg, decide_eq_true, decide_eq_false, beqT, beqF, bneT, bneF, wrapI, wrapU32, wrapU64, wrapU8, nc_add, nc_addL, nc_addR, nc_mul, nc_mulL, nc_mulR, nc_div, nc_divL, nc_mod, nc_modL, nc_1, nc_sub1, natA_at, natA_put, eatH_one, Int.toNat_natCast, Option.map_some, shr32, shl32, List.getD_cons_zero, List.getD_cons_succ, List.length_set, List.set_cons_zero, List.set_cons_succ, natI]
                refine x_callP (hN1) ci_readNat (by simp [evA, upd_app, ofVal, ofCell]) (by simp [AV.pure, AV.pureL, natA_pure, natI_pure, natS_pure]) (by simp [AV.pure, AV.pureL, natA_pure, natI_pure, natS_pure]) ?_
                simp (disch := omega) only [go_sem, ↓k_cond, ↓x_idx, ↓k_block, Nat.reduceEqDiff, ↓reduceIte, reduceCtorEq, if_pos, if_neg, decide_eq_true, decide_eq_false, beqT, beqF, bneT, bneF, wrapI, wrapU32, wrapU64, wrapU8, nc_add, nc_addL, nc_addR, nc_mul, nc_mulL, nc_mulR, nc_div, nc_divL, nc_mod, nc_modL, nc_1, nc_sub1, natA_at, natA_put, eatH_one, Int.toNat_natCast, Option.map_some, shr32, shl32, List.getD_cons_zero, List.getD_cons_succ, List.length_set, List.set_cons_zero, List.set_cons_succ, natI]
                refine x_callP hone ci_natOf (by simp [evA, upd_app, ofVal, ofCell]) (by simp [AV.pure, AV.pureL]) (by simp) ?_
                simp (disch := omega) only [go_sem, ↓k_cond, ↓x_idx, ↓k_block, Nat.reduceEqDiff, ↓reduceIte, reduceCtorEq, if_pos, if_neg, decide_eq_true, decide_eq_false, beqT, beqF, bneT, bneF, wrapI, wrapU32, wrapU64, wrapU8, nc_add, nc_addL, nc_addR, nc_mul, nc_mulL, nc_mulR, nc_div, nc_divL, nc_mod, nc_modL, nc_1, nc_sub1, natA_at, natA_put, eatH_one, Int.toNat_natCast, Option.map_some, shr32, shl32, List.getD_cons_zero, List.getD_cons_succ, List.length_set, List.set_cons_zero, List.set_cons_succ, e0, natI]
                refine x_callP (hN2) ci_readNat (by simp [evA, upd_app, ofVal, ofCell]) (by simp [AV.pure, AV.pureL, natA_pure, natI_pure, natS_pure]) (by simp [AV.pure, AV.pureL, natA_pure, natI_pure, natS_pure]) ?_
                simp (disch := omega) only [go_sem, ↓k_cond, ↓x_idx, ↓k_block, Nat.reduceEqDiff, ↓reduceIte, reduceCtorEq, if_pos, if_neg, decide_eq_true, decide_eq_false, beqT, beqF, bneT, bneF, wrapI, wrapU32, wrapU64, wrapU8, nc_add, nc_addL, nc_addR, nc_mul, nc_mulL, nc_mulR, nc_div, nc_divL, nc_mod, nc_modL, nc_1, nc_sub1, natA_at, natA_put, eatH_one, Int.toNat_natCast, Option.map_some, shr32, shl32, List.getD_cons_zero, List.getD_cons_succ, List.length_set, List.set_cons_zero, List.set_cons_succ, natI]
                refine x_callP hone ci_natOf (by simp [evA, upd_app, ofVal, ofCell]) (by simp [AV.pure, AV.pureL]) (by simp) ?_
                simp (disch := omega) only [go_sem, ↓k_cond, ↓x_idx, ↓k_block, Nat.reduceEqDiff, ↓reduceIte, reduceCtorEq, if_pos, if_neg, decide_eq_true, decide_eq_false, beqT, beqF, bneT, bneF, wrapI, wrapU32, wrapU64, wrapU8, nc_add, nc_addL, nc_addR, nc_mul, nc_mulL, nc_mulR, nc_div, nc_divL, nc_mod, nc_modL, nc_1, nc_sub1, natA_at, natA_put, eatH_one, Int.toNat_natCast, Option.map_some, shr32, shl32, List.getD_cons_zero, List.getD_cons_succ, List.length_set, List.set_cons_zero, List.set_cons_succ, natI]
                refine x_callP hcmp ci_cmp (by simp [evA, upd_app, natI]) (by simp [AV.pureL]) rfl ?_
                simp (disch := omega) only [go_sem, ↓k_cond, ↓x_idx, ↓k_block, Nat.reduceEqDiff, ↓reduceIte, reduceCtorEq, if_pos, if_neg, decide_eq_true, decide_eq_false, beqT, beqF, bneT, bneF, wrapI, wrapU32, wrapU64, wrapU8, nc_add, nc_addL, nc_addR, nc_mul, nc_mulL, nc_mulR, nc_div, nc_divL, nc_mod, nc_modL, nc_1, nc_sub1, natA_at, natA_put, eatH_one, Int.toNat_natCast, Option.map_some, shr32, shl32, List.getD_cons_zero, List.getD_cons_succ, List.length_set, List.set_cons_zero, List.set_cons_succ, natI]
                refine x_callP hgcd ci_gcd (by simp [evA, upd_app, natI]) (by simp [AV.pureL]) (by simp) ?_
                simp (disch := omega) only [go_sem, ↓k_cond, ↓x_idx, ↓k_block, Nat.reduceEqDiff, ↓reduceIte, reduceCtorEq, if_pos, if_neg, decide_eq_true, decide_eq_false, beqT, beqF, bneT, bneF, wrapI, wrapU32, wrapU64, wrapU8, nc_add, nc_addL, nc_addR, nc_mul, nc_mulL, nc_mulR, nc_div, nc_divL, nc_mod, nc_modL, nc_1, nc_sub1, natA_at, natA_put, eatH_one, Int.toNat_natCast, Option.map_some, shr32, shl32, List.getD_cons_zero, List.getD_cons_succ, List.length_set, List.set_cons_zero, List.set_cons_succ, natI]
                refine x_callP hone ci_natOf (by simp [evA, upd_app, ofVal, ofCell]) (by simp [AV.pure, AV.pureL]) (by simp) ?_
                refine x_callP hcg ci_cmp (by simp [evA, upd_app, natI]) (by simp [AV.pureL]) rfl ?_
                simp (disch := omega) only [go_sem, ↓k_cond, ↓x_idx, ↓k_block, Nat.reduceEqDiff, ↓reduceIte, reduceCtorEq, if_pos, if_neg, decide_eq_true, decide_eq_false, beqT, beqF, bneT, bneF, wrapI, wrapU32, wrapU64, wrapU8, nc_add, nc_addL, nc_addR, nc_mul, nc_mulL, nc_mulR, nc_div, nc_divL, nc_mod, nc_modL, nc_1, nc_sub1, natA_at, natA_put, eatH_one, Int.toNat_natCast, Option.map_some, shr32, shl32, List.getD_cons_zero, List.getD_cons_succ, List.length_set, List.set_cons_zero, List.set_cons_succ, e0, natI]
                rw [← hQ]
                exact hfail _ (by first | (simp only [upd_app, ↓reduceIte, Nat.reduceEqDiff]; done) | (simp [upd_app]; done) | (simp [upd_app]; omega)) (by simp [upd_app]) (by simp [upd_app, zeroI]) (by first | (simp only [upd_app, ↓reduceIte, Nat.reduceEqDiff]; done) | (simp [upd_app]; done) | (simp [upd_app]; omega)) hpq
            · have hc1 : cmpI u 1 ≤ 0 := by
                rcases Nat.lt_or_ge u 1 with h | h
                · rw [cmpI_lt h]; decide
                · rw [show u = 1 by omega, cmpI_eq]; decide
              rw [if_neg (fun h => hu1 h.1)] at hpq
              (refine callOk_of_wpc (W := fun _ => false) false hm' Tryd.func16 rfl (by kernel_rfl) (Nat.le_of_ble_eq_true rfl) (go_start ?_); generalize hQ : Post Tryd.prog Tryd.f16 _ _ _ _ _ = Q; simp only [stIn, matL, matA, st00])
              simp (disch := omega) only [go_sem, ↓k_cond, ↓x_idx, ↓k_block, Nat.reduceEqDiff, ↓reduceIte, reduceCtorEq, if_pos, if_neg, decide_eq_true, decide_eq_false, beqT, beqF, bneT, bneF, wrapI, wrapU32, wrapU64, wrapU8, nc_add, nc_addL, nc_addR, nc_mul, nc_mulL, nc_mulR, nc_div, nc_divL, nc_mod, nc_modL, nc_1, nc_sub1, natA_at, natA_put, eatH_one, Int.toNat_natCast, Option.map_some, shr32, shl32, List.getD_cons_zero, List.getD_cons_succ, List.length_set, List.set_cons_zero, List.set_cons_succ, zeroI, e0]
              refine x_callP (hCut') c_Cut (by simp [evA, upd_app, ofVal, ofCell]) (by simp [AV.pure, AV.pureL, natA_pure, natI_pure, natS_pure]) (by simp [AV.pure, AV.pureL, natA_pure, natI_pure, natS_pure]) ?_
              simp (disch := omega) only [go_sem, ↓k_cond, ↓x_idx, ↓k_block, Nat.reduceEqDiff, ↓reduceIte, reduceCtorEq, if_pos, if_neg, decide_eq_true, decide_eq_false, beqT, beqF, bneT, bneF, wrapI, wrapU32, wrapU64, wrapU8, nc_add, nc_addL, nc_addR, nc_mul, nc_mulL, nc_mulR, nc_div, nc_divL, nc_mod, nc_modL, nc_1, nc_sub1, natA_at, natA_put, eatH_one, Int.toNat_natCast, Option.map_some, shr32, shl32, List.getD_cons_zero, List.getD_cons_succ, List.length_set, List.set_cons_zero, List.set_cons_succ, natI]
              refine x_callP (hPre) c_CutPrefix (by simp [evA, upd_app, ofVal, ofCell]) (by simp [AV.pure, AV.pureL, natA_pure, natI_pure, natS_pure]) (by simp [AV.pure, AV.pureL, natA_pure, natI_pure, natS_pure]) ?_
              simp (disch := omega) only [go_sem, ↓k_cond, ↓x_idx, ↓k_block, Nat.reduceEqDiff, ↓reduceIte, reduceCtorEq, if_pos, if_neg, decide_eq_true, decide_eq_false, beqT, beqF, bneT, bneF, wrapI, wrapU32, wrapU64, wrapU8, nc_add, nc_addL, nc_addR, nc_mul, nc_mulL, nc_mulR, nc_div, nc_divL, nc_mod, nc_modL, nc_1, nc_sub1, natA_at, natA_put, eatH_one, Int.toNat_natCast, Option.map_some, shr32, shl32, List.getD_cons_zero, List.getD_cons_succ, List.length_set, List.set_cons_zero, List.set_cons_succ, natI]
              refine x_callP (hN1) ci_readNat (by simp [evA, upd_app, ofVal, ofCell]) (by simp [AV.pure, AV.pureL, natA_pure, natI_pure, natS_pure]) (by simp [AV.pure, AV.pureL, natA_pure, natI_pure, natS_pure]) ?_
              simp (disch := omega) only [go_sem, ↓k_cond, ↓x_idx, ↓k_block, Nat.reduceEqDiff, ↓reduceIte, reduceCtorEq, if_pos, if_neg, decide_eq_true, decide_eq_false, beqT, beqF, bneT, bneF, wrapI, wrapU32, wrapU64, wrapU8, nc_add, nc_addL, nc_addR, nc_mul, nc_mulL, nc_mulR, nc_div, nc_divL, nc_mod, nc_modL, nc_1, nc_sub1, natA_at, natA_put, eatH_one, Int.toNat_natCast, Option.map_some, shr32, shl32, List.getD_cons_zero, List.getD_cons_succ, List.length_set, List.set_cons_zero, List.set_cons_succ, natI]
              refine x_callP hone ci_natOf (by simp [evA, upd_app, ofVal, ofCell]) (by simp [AV.pure, AV.pureL]) (by simp) ?_
              simp (disch := omega) only [go_sem, ↓k_cond, ↓x_idx, ↓k_block, Nat.reduceEqDiff, ↓reduceIte, reduceCtorEq, if_pos, if_neg, decide_eq_true, decide_eq_false, beqT, beqF, bneT, bneF, wrapI, wrapU32, wrapU64, wrapU8, nc_add, nc_addL, nc_addR, nc_mul, nc_mulL, nc_mulR, nc_div, nc_divL, nc_mod, nc_modL, nc_1, nc_sub1, natA_at, natA_put, eatH_one, Int.toNat_natCast, Option.map_some, shr32, shl32, List.getD_cons_zero, List.getD_cons_succ, List.length_set, List.set_cons_zero, List.set_cons_succ, e0, natI]
              refine x_callP (hN2) ci_readNat (by simp [evA, upd_app, ofVal, ofCell]) (by simp [AV.pure, AV.pureL, natA_pure, natI_pure, natS_pure]) (by simp [AV.pure, AV.pureL, natA_pure, natI_pure, natS_pure]) ?_
              simp (disch := omega) only [go_sem, ↓k_cond, ↓x_idx, ↓k_block, Nat.reduceEqDiff, ↓reduceIte, reduceCtorEq, if_pos, if_neg, decide_eq_true, decide_eq_false, beqT, beqF, bneT, bneF, wrapI, wrapU32, wrapU64, wrapU8, nc_add, nc_addL, nc_addR, nc_mul, nc_mulL, nc_mulR, nc_div, nc_divL, nc_mod, nc_modL, nc_1, nc_sub1, natA_at, natA_put, eatH_one, Int.toNat_natCast, Option.map_some, shr32, shl32, List.getD_cons_zero, List.getD_cons_succ, List.length_set, List.set_cons_zero, List.set_cons_succ, natI]
              refine x_callP hone ci_natOf (by simp [evA, upd_app, ofVal, ofCell]) (by simp [AV.pure, AV.pureL]) (by simp) ?_
              simp (disch := omega) only [go_sem, ↓k_cond, ↓x_idx, ↓k_block, Nat.reduceEqDiff, ↓reduceIte, reduceCtorEq, if_pos, if_neg, decide_eq_true, decide_eq_false, beqT, beqF, bneT, bneF, wrapI, wrapU32, wrapU64, wrapU8, nc_add, nc_addL, nc_addR, nc_mul, nc_mulL, nc_mulR, nc_div, nc_divL, nc_mod, nc_modL, nc_1, nc_sub1, natA_at, natA_put, eatH_one, Int.toNat_natCast, Option.map_some, shr32, shl32, List.getD_cons_zero, List.getD_cons_succ, List.length_set, List.set_cons_zero, List.set_cons_succ, natI]
              refine x_callP hcmp ci_cmp (by simp [evA, upd_app, natI]) (by simp [AV.pureL]) rfl ?_
              simp (disch := omega) only [go_sem, ↓k_cond, ↓x_idx, ↓k_block, Nat.reduceEqDiff, ↓reduceIte, reduceCtorEq, if_pos, if_neg, decide_eq_true, decide_eq_false, beqT, beqF, bneT, bneF, wrapI, wrapU32, wrapU64, wrapU8, nc_add, nc_addL, nc_addR, nc_mul, nc_mulL, nc_mulR, nc_div, nc_divL, nc_mod, nc_modL, nc_1, nc_sub1, natA_at, natA_put, eatH_one, Int.toNat_natCast, Option.map_some, shr32, shl32, List.getD_cons_zero, List.getD_cons_succ, List.length_set, List.set_cons_zero, List.set_cons_succ, e0, natI]
              rw [← hQ]
              exact hfail _ (by first | (simp only [upd_app, ↓reduceIte, Nat.reduceEqDiff]; done) | (simp [upd_app]; done) | (simp [upd_app]; omega)) (by simp [upd_app]) (by simp [upd_app, zeroI]) (by first | (simp only [upd_app, ↓reduceIte, Nat.reduceEqDiff]; done) | (simp [upd_app]; done) | (simp [upd_app]; omega)) hpq
end Go.Proofs.YtogabejpbdmnnaaDoor
