/- Ground 8. -/
import Derived.Test.YtdljcbbodihagaaGreatDoorM7

set_option linter.unusedVariables false
set_option linter.unusedSimpArgs false
set_option maxRecDepth 100000
namespace Go.Proofs.YtdljcbbodihagaaGreatDoor
open Go

theorem ci_readNat : callable Tryz.prog 71 = true := by kernel_rfl
def tokD (s : List UInt8) : Bool := decide (1 ≤ s.length) && decide (s.length ≤ 200) && (decide (s.length = 1) || !(s.head? == some 48)) && s.all isDig
theorem tok_len {s : List UInt8} (h : tokD s = true) : 1 ≤ s.length ∧ s.length ≤ 200 ∧ ∀ c ∈ s, isDig c = true := by
 simp only [tokD, Bool.and_eq_true, decide_eq_true_eq, List.all_eq_true] at h
 exact ⟨h.1.1.1, h.1.1.2, h.2⟩
theorem dval_enc {B : Nat} (hB : 10 ≤ B) {s : List UInt8} (h : ∀ c ∈ s, isDig c = true) : (enc B (dval s)).length ≤ s.length :=
 enc_len_le (by omega) (Nat.lt_of_lt_of_le (dval_lt h) (Nat.pow_le_pow_left hB _))
theorem mul_ten {k : Nat} (h : k ≤ 18) : 10 ^ k ≤ 1000000000000000000 := Nat.le_trans (Nat.pow_le_pow_right (by omega) h) (by decide)
def readNatV (s : List UInt8) : AV := if tokD s = true then .tup [natI (dval s), .bool true] else .tup [.nil, .bool false]
set_option maxHeartbeats 2000000 in
theorem i_readNat (s : List UInt8) (hs : s.length < 9223372036854775808) : CallOk Tryz.prog 71 [.str s] (readNatV s) [] := by
  have hbad : ∀ (h : tokD s = false), readNatV s = .tup [.nil, .bool false] := fun h => by rw [readNatV, h]; rfl
  by_cases h0 : s = []
  · rw [hbad (by simp [h0, tokD])]
    subst h0
    (refine callOk_of_wpc (W := fun _ => false) false hm' Tryz.func71 rfl (by kernel_rfl) (Nat.le_of_ble_eq_true rfl) (go_start ?_); generalize hQ : Post Tryz.prog Tryz.f71 _ _ _ _ _ = Q; simp only [stIn, matL, matA, st00])
    have e : (([] : List UInt8) == []) = true := rfl
    simp (disch := omega) only [go_sem, Nat.reduceEqDiff, Nat.reduceBEq, ↓reduceIte, reduceCtorEq, e]
    rw [← hQ]
    exact post_two (.inl rfl) rfl (by simp [upd_app] <;> omega) (by simp [upd_app] <;> omega) rfl rfl
  have e0 : (s == ([] : List UInt8)) = false := by simpa using h0
  have hl0 : 0 < s.length := List.length_pos_iff.2 h0
  by_cases h200 : 200 < s.length
  · rw [hbad (by simp [tokD]; omega)]
    (refine callOk_of_wpc (W := fun _ => false) false hm' Tryz.func71 rfl (by kernel_rfl) (Nat.le_of_ble_eq_true rfl) (go_start ?_); generalize hQ : Post Tryz.prog Tryz.f71 _ _ _ _ _ = Q; simp only [stIn, matL, matA, st00])
    simp (disch := omega) only [go_sem, Nat.reduceEqDiff, Nat.reduceBEq, ↓reduceIte, reduceCtorEq, e0]
    rw [← hQ]
    exact post_two (.inl rfl) rfl (by simp [upd_app] <;> omega) (by simp [upd_app] <;> omega) rfl rfl
  obtain ⟨c0, hc0⟩ := get_some (xs := s) (i := 0) hl0
  have hc0' : s[Int.toNat 0]? = some c0 := hc0
  have hhead : s.head? = some c0 := by rw [List.head?_eq_getElem?]; exact hc0
  by_cases hz : c0.toNat = 48 ∧ 1 < s.length
  · obtain ⟨hz1, hz2⟩ := hz
    have hc48 : c0 = 48 := UInt8.toNat.inj (by rw [hz1]; rfl)
    rw [hbad (by simp [tokD, hhead, hc48]; omega)]
    (refine callOk_of_wpc (W := fun _ => false) false hm' Tryz.func71 rfl (by kernel_rfl) (Nat.le_of_ble_eq_true rfl) (go_start ?_); generalize hQ : Post Tryz.prog Tryz.f71 _ _ _ _ _ = Q; simp only [stIn, matL, matA, st00])
    simp (disch := omega) only [go_sem, Nat.reduceEqDiff, Nat.reduceBEq, ↓reduceIte, reduceCtorEq, e0, hc0', hz1]
    rw [← hQ]
    exact post_two (.inl rfl) rfl (by simp [upd_app] <;> omega) (by simp [upd_app] <;> omega) rfl rfl
  have htok : tokD s = s.all isDig := by
    have h1 : (decide (s.length = 1) || !(s.head? == some 48)) = true := by
      rw [hhead]
      by_cases hh : s.length = 1
      · simp [hh]
      · have : c0 ≠ 48 := fun e => hz ⟨by rw [e]; rfl, by omega⟩
        simp [this]
    simp [tokD, h1]; intro _; omega
  have hls : s.length ≤ 200 := by omega
  have nat0 : natI 0 = .sl 114 [] [] false := by simp [natI, enc_zero, natA]
  have htrue : ∀ (h : s.all isDig = true), readNatV s = .tup [natI (dval s), .bool true] := fun h => by rw [readNatV, htok, h]; rfl
  (refine callOk_of_wpc (W := fun _ => false) false hm' Tryz.func71 rfl (by kernel_rfl) (Nat.le_of_ble_eq_true rfl) (go_start ?_); generalize hQ : Post Tryz.prog Tryz.f71 _ _ _ _ _ = Q; simp only [stIn, matL, matA, st00])
  obtain ⟨R1, hR1⟩ : ∃ R : Nat → St → Prop, R = fun i st => st.fr 0 = .str s ∧ st.fr 4 = .sl 114 [] [] true ∧ st.fr 29 = .int .i64 s.length ∧ st.fr 30 = .int .i64 i ∧ i ≤ s.length ∧ ∀ c ∈ s.take i, isDig c = true := ⟨_, rfl⟩
  obtain ⟨R2, hR2⟩ : ∃ R : List UInt8 × List UInt8 → St → Prop, R = fun p st => st.fr 0 = .str p.2 ∧ p.1 ++ p.2 = s ∧ (st.fr 4 = natI (dval p.1) ∨ p.1 = [] ∧ st.fr 4 = .sl 114 [] [] true) ∧ ∀ c ∈ s, isDig c = true := ⟨_, rfl⟩
  rcases Nat.decEq c0.toNat 48 with h48 | h48
  · simp (disch := omega) only [go_sem, Nat.reduceEqDiff, Nat.reduceBEq, ↓reduceIte, reduceCtorEq, e0, hc0']
    refine k_loop R1 (fun i => s.length - i) 0 (by rw [hR1]; exact ⟨(by simp [upd_app] <;> omega), (by simp [upd_app] <;> omega), (by simp [upd_app] <;> omega), (by simp [upd_app] <;> omega), by simp, by simp⟩) ?_
    rintro i ⟨fr, h, nx⟩ hst J hJ
    rw [hR1] at hst
    obtain ⟨g0, g4, g29, g30, hi, hdg⟩ := hst
    simp only at g0 g4 g29 g30
    by_cases hin : i < s.length
    · obtain ⟨c, hc⟩ := get_some (xs := s) (i := i) hin
      have hcb := c.toNat_lt
      cases hd : isDig c with
      | false =>
        have hnd : c.toNat < 48 ∨ 57 < c.toNat := by simp [isDig] at hd; omega
        rw [hbad (by rw [htok]; simp; exact ⟨c, List.mem_of_getElem? hc, hd⟩)] at hQ
        rcases hnd with hnd | hnd
        · simp (disch := omega) only [go_sem, Nat.reduceEqDiff, Nat.reduceBEq, ↓reduceIte, reduceCtorEq, g0, g4, g29, g30, hc]
          rw [← hQ]
          exact post_two (.inl rfl) rfl (by simp [upd_app] <;> omega) (by simp [upd_app] <;> omega) rfl rfl
        · simp (disch := omega) only [go_sem, Nat.reduceEqDiff, Nat.reduceBEq, ↓reduceIte, reduceCtorEq, g0, g4, g29, g30, hc]
          rw [← hQ]
          exact post_two (.inl rfl) rfl (by simp [upd_app] <;> omega) (by simp [upd_app] <;> omega) rfl rfl
      | true =>
        have hnd : 48 ≤ c.toNat ∧ c.toNat ≤ 57 := by simpa [isDig] using hd
        simp (disch := omega) only [go_sem, Nat.reduceEqDiff, Nat.reduceBEq, ↓reduceIte, reduceCtorEq, g0, g4, g29, g30, hc]
        refine hJ (i + 1) _ ?_ (by omega)
        rw [hR1]
        refine ⟨(by simp [upd_app, g0] <;> omega), (by simp [upd_app, g4] <;> omega), (by simp [upd_app, g29] <;> omega), (by simp [upd_app] <;> omega), hin, fun d hd' => ?_⟩
        rw [List.take_add_one, hc] at hd'
        rcases List.mem_append.1 hd' with h' | h'
        · exact hdg d h'
        · simp at h'; rw [h']; exact hd
    · rw [List.take_of_length_le (by omega)] at hdg
      clear hJ
      simp (disch := omega) only [go_sem, Nat.reduceEqDiff, Nat.reduceBEq, ↓reduceIte, reduceCtorEq, g0, g4, g29, g30]
      refine k_loop R2 (fun p => p.2.length) ([], s) (by rw [hR2]; exact ⟨(by simp [upd_app, g0] <;> omega), by simp, .inr ⟨rfl, (by simp [upd_app, g4] <;> omega)⟩, hdg⟩) ?_
      clear g0 g4 g29 g30 hi hin
      rintro ⟨pre, rest⟩ ⟨fr, h, nx⟩ hst J hJ
      rw [hR2] at hst
      obtain ⟨g0, hps, g4, _⟩ := hst
      simp only at g0 hps g4
      have hpd : ∀ c ∈ pre, isDig c = true := fun c hc => hdg c (by rw [← hps]; simp [hc])
      have hrd : ∀ c ∈ rest, isDig c = true := fun c hc => hdg c (by rw [← hps]; simp [hc])
      have hlen : pre.length + rest.length = s.length := by rw [← hps]; simp
      rw [htrue (by simpa using hdg)] at hQ
      by_cases hr0 : rest = []
      · subst hr0
        have er : (([] : List UInt8) == []) = true := rfl
        rw [List.append_nil] at hps
        subst hps
        rcases g4 with g4 | ⟨hp, _⟩
        · simp (disch := omega) only [go_sem, Nat.reduceEqDiff, Nat.reduceBEq, ↓reduceIte, reduceCtorEq, g0, er, g4]
          rw [← hQ]
          exact post_two (.inl rfl) rfl (by simp [upd_app, g4] <;> omega) (by simp [upd_app] <;> omega) (by simp) rfl
        · exact absurd hp h0
      · have er : (rest == []) = false := by simpa using hr0
        have hrl : 0 < rest.length := List.length_pos_iff.2 hr0
        obtain ⟨X, hX⟩ : ∃ X, fr 4 = X := ⟨_, rfl⟩
        rw [hX] at g4
        have hXp : X.pure = true := by rcases g4 with rfl | ⟨_, rfl⟩ <;> simp [AV.pure, AV.pureL]
        obtain ⟨k, hk, hk0, hk9⟩ : ∃ k, (if rest.length % 9 = 0 then 9 else rest.length % 9) = k ∧ 0 < k ∧ k ≤ 9 := ⟨_, rfl, by split <;> omega, by split <;> omega⟩
        have hkl : k ≤ rest.length := by split at hk <;> omega
        have hcd : ∀ c ∈ rest.take k, isDig c = true := fun c hc => hrd c (List.mem_of_mem_take hc)
        have hcl : (rest.take k).length = k := by simp; omega
        have hPU := g_ParseUint (rest.take k) hcd (fun e => by rw [e] at hcl; simp at hcl; omega) (by omega)
        have hten := mul_ten (show k ≤ 18 by omega)
        have hcv : dval (rest.take k) < 1000000000000000000 := by have := dval_lt hcd; rw [hcl] at this; omega
        have hpe : (enc B32 (dval pre)).length ≤ 200 := Nat.le_trans (dval_enc (by decide) hpd) (by omega)
        have hte : (enc B32 (10 ^ k)).length ≤ 3 := enc_len_le B32_gt (by simp only [B32]; omega)
        have hce : (enc B32 (dval (rest.take k))).length ≤ 3 := enc_len_le B32_gt (by simp only [B32]; omega)
        have hmul : CallOk Tryz.prog 53 [X, natI (10 ^ k)] (natI (dval pre * 10 ^ k)) [] := by
          rcases g4 with rfl | ⟨rfl, rfl⟩
          · exact i_mul _ _ (by omega) (by omega)
          · have := i_mul 0 (10 ^ k) (by simp [enc_zero]) (by omega)
            rw [show dval [] = 0 from rfl]
            rw [nat0] at this
            exact this.args (SubL.cons sub_sl (SubL.refl _))
        have hnew : dval pre * 10 ^ k + dval (rest.take k) = dval (pre ++ rest.take k) := by rw [dval_append, hcl]
        have hpm : (enc B32 (dval pre * 10 ^ k)).length ≤ 1099511627776 := by
          have : (enc B32 (dval pre * 10 ^ k)).length ≤ (enc B32 (dval (pre ++ rest.take k))).length := enc_len_mono B32_gt (by rw [← hnew]; omega)
          have h2 := dval_enc (B := B32) (by decide) (s := pre ++ rest.take k) (fun c hc => by rcases List.mem_append.1 hc with h | h; exact hpd c h; exact hcd c h)
          simp only [List.length_append] at h2; omega
        have hadd := i_addTo (dval pre * 10 ^ k) (dval (rest.take k)) hpm (by omega)
        rw [hnew] at hadd
        have hfin : ∀ st : St, st.fr 0 = .str (rest.drop k) → st.fr 4 = natI (dval (pre ++ rest.take k)) → J st := fun st r0 r4 => hJ (pre ++ rest.take k, rest.drop k) st (by
          rw [hR2]; exact ⟨r0, by simp [hps], .inl r4, hdg⟩) (by simp; omega)
        clear hJ hR1 hR2 hbad htrue hQ hps
        simp (disch := omega) only [go_sem, ↓k_blockStop, Nat.reduceEqDiff, Nat.reduceBEq, ↓reduceIte, reduceCtorEq, g0, er, hX]; try unfold goB
        rw [k_block]
        obtain ⟨F, hF⟩ : ∃ F : St → Prop, F = fun st => st.fr 0 = .str rest ∧ st.fr 4 = X ∧ st.fr 6 = .int .i64 k := ⟨_, rfl⟩
        simp (disch := omega) only [go_sem, ↓k_condStop, Nat.reduceEqDiff, Nat.reduceBEq, ↓reduceIte, reduceCtorEq, g0, hX]; try unfold goS
        refine k_join F ?_ ?_
        · by_cases hk9' : rest.length % 9 = 0
          · rw [if_pos hk9'] at hk
            simp (disch := omega) only [go_sem, Nat.reduceEqDiff, Nat.reduceBEq, ↓reduceIte, reduceCtorEq, g0, hX, hk9']
            rw [hF]; exact ⟨(by simp [upd_app, g0] <;> omega), (by simp [upd_app, hX] <;> omega), (by simp [upd_app, hk] <;> omega)⟩
          · rw [if_neg hk9'] at hk
            simp (disch := omega) only [go_sem, Nat.reduceEqDiff, Nat.reduceBEq, ↓reduceIte, reduceCtorEq, g0, hX, hk]
            rw [hF]; exact ⟨(by simp [upd_app, g0] <;> omega), (by simp [upd_app, hX] <;> omega), (by simp [upd_app, hk] <;> omega)⟩
        clear hk
        rintro ⟨fr, h, nx⟩ hst
        rw [hF] at hst
        obtain ⟨g0, g4', g6⟩ := hst
        simp only at g0 g4' g6
        simp (disch := omega) only [go_sem, Nat.reduceEqDiff, Nat.reduceBEq, ↓reduceIte, reduceCtorEq, g0, g4', g6]
        refine x_callP hPU c_ParseUint (by simp [evA, upd_app, ofVal, ofCell]) (by simp [AV.pure, AV.pureL]) (by simp [AV.pure, AV.pureL]) ?_
        simp (disch := omega) only [go_sem, Nat.reduceEqDiff, Nat.reduceBEq, ↓reduceIte, reduceCtorEq, g0, g4', g6]
        refine k_loop (fun (i : Nat) st => st.fr 0 = .str rest ∧ st.fr 4 = X ∧ st.fr 6 = .int .i64 k ∧ st.fr 7 = .int .u64 (dval (rest.take k)) ∧ st.fr 9 = .int .u64 (10 ^ i : Nat) ∧ st.fr 58 = .int .i64 k ∧ st.fr 59 = .int .i64 i ∧ i ≤ k) (fun i => k - i) 0
          ⟨(by simp [upd_app, g0] <;> omega), (by simp [upd_app, g4'] <;> omega), (by simp [upd_app, g6] <;> omega), (by simp [upd_app] <;> omega), (by simp [upd_app] <;> omega), (by simp [upd_app, g6] <;> omega), (by simp [upd_app] <;> omega), by omega⟩ ?_
        rintro i ⟨fr, h, nx⟩ ⟨g0, g4', g6, g7, g9, g58, g59, hi⟩ J2 hJ2
        simp only at g0 g4' g6 g7 g9 g58 g59
        by_cases hik : i < k
        · have h10 := mul_ten (show i ≤ 18 by omega)
          have hs10 : 10 ^ i * 10 = 10 ^ (i + 1) := rfl
          obtain ⟨z, hz'⟩ : ∃ z, 10 ^ i = z := ⟨_, rfl⟩
          rw [hz'] at h10 hs10 g9
          simp (disch := omega) only [go_sem, Nat.reduceEqDiff, Nat.reduceBEq, ↓reduceIte, reduceCtorEq, g0, g4', g6, g7, g9, g58, g59]
          exact hJ2 (i + 1) _ ⟨(by simp [upd_app, g0] <;> omega), (by simp [upd_app, g4'] <;> omega), (by simp [upd_app, g6] <;> omega), (by simp [upd_app, g7] <;> omega), (by simp [upd_app, hs10] <;> omega), (by simp [upd_app, g58] <;> omega), (by simp [upd_app] <;> omega), hik⟩ (by omega)
        · obtain rfl : i = k := by omega
          simp (disch := omega) only [go_sem, Nat.reduceEqDiff, Nat.reduceBEq, ↓reduceIte, reduceCtorEq, g0, g4', g6, g7, g9, g58, g59]
          refine x_callP (i_natOf (10 ^ i) (by omega)) ci_natOf (by simp [evA, upd_app, ofVal, ofCell, g9]) (by simp [AV.pure, AV.pureL]) (by simp [AV.pure, AV.pureL]) ?_
          refine x_callP hmul ci_mul (by simp [evA, upd_app, g4']) (by simp [AV.pureL, hXp]) (by simp) ?_
          simp (disch := omega) only [go_sem, Nat.reduceEqDiff, Nat.reduceBEq, ↓reduceIte, reduceCtorEq, g7]
          refine x_callP (i_natOf (dval (rest.take i)) (by omega)) ci_natOf (by simp [evA, upd_app, ofVal, ofCell, g7]) (by simp [AV.pure, AV.pureL]) (by simp [AV.pure, AV.pureL]) ?_
          refine x_callP (hadd) ci_add (by simp [evA, upd_app, ofVal, ofCell]) (by simp [AV.pure, AV.pureL]) (by simp [AV.pure, AV.pureL]) ?_
          simp (disch := omega) only [go_sem, Nat.reduceEqDiff, Nat.reduceBEq, ↓reduceIte, reduceCtorEq, g0, g6, List.take_length]
          exact hfin _ (by simp [upd_app] <;> omega) (by simp [upd_app] <;> omega)
  · have hl1 : ¬ 1 < s.length := fun h => hz ⟨h48, h⟩
    simp (disch := omega) only [go_sem, Nat.reduceEqDiff, Nat.reduceBEq, ↓reduceIte, reduceCtorEq, e0, hc0', h48]
    refine k_loop R1 (fun i => s.length - i) 0 (by rw [hR1]; exact ⟨(by simp [upd_app] <;> omega), (by simp [upd_app] <;> omega), (by simp [upd_app] <;> omega), (by simp [upd_app] <;> omega), by simp, by simp⟩) ?_
    rintro i ⟨fr, h, nx⟩ hst J hJ
    rw [hR1] at hst
    obtain ⟨g0, g4, g29, g30, hi, hdg⟩ := hst
    simp only at g0 g4 g29 g30
    by_cases hin : i < s.length
    · obtain ⟨c, hc⟩ := get_some (xs := s) (i := i) hin
      have hcb := c.toNat_lt
      cases hd : isDig c with
      | false =>
        have hnd : c.toNat < 48 ∨ 57 < c.toNat := by simp [isDig] at hd; omega
        rw [hbad (by rw [htok]; simp; exact ⟨c, List.mem_of_getElem? hc, hd⟩)] at hQ
        rcases hnd with hnd | hnd
        · simp (disch := omega) only [go_sem, Nat.reduceEqDiff, Nat.reduceBEq, ↓reduceIte, reduceCtorEq, g0, g4, g29, g30, hc]
          rw [← hQ]
          exact post_two (.inl rfl) rfl (by simp [upd_app] <;> omega) (by simp [upd_app] <;> omega) rfl rfl
        · simp (disch := omega) only [go_sem, Nat.reduceEqDiff, Nat.reduceBEq, ↓reduceIte, reduceCtorEq, g0, g4, g29, g30, hc]
          rw [← hQ]
          exact post_two (.inl rfl) rfl (by simp [upd_app] <;> omega) (by simp [upd_app] <;> omega) rfl rfl
      | true =>
        have hnd : 48 ≤ c.toNat ∧ c.toNat ≤ 57 := by simpa [isDig] using hd
        simp (disch := omega) only [go_sem, Nat.reduceEqDiff, Nat.reduceBEq, ↓reduceIte, reduceCtorEq, g0, g4, g29, g30, hc]
        refine hJ (i + 1) _ ?_ (by omega)
        rw [hR1]
        refine ⟨(by simp [upd_app, g0] <;> omega), (by simp [upd_app, g4] <;> omega), (by simp [upd_app, g29] <;> omega), (by simp [upd_app] <;> omega), hin, fun d hd' => ?_⟩
        rw [List.take_add_one, hc] at hd'
        rcases List.mem_append.1 hd' with h' | h'
        · exact hdg d h'
        · simp at h'; rw [h']; exact hd
    · rw [List.take_of_length_le (by omega)] at hdg
      clear hJ
      simp (disch := omega) only [go_sem, Nat.reduceEqDiff, Nat.reduceBEq, ↓reduceIte, reduceCtorEq, g0, g4, g29, g30]
      refine k_loop R2 (fun p => p.2.length) ([], s) (by rw [hR2]; exact ⟨(by simp [upd_app, g0] <;> omega), by simp, .inr ⟨rfl, (by simp [upd_app, g4] <;> omega)⟩, hdg⟩) ?_
      clear g0 g4 g29 g30 hi hin
      rintro ⟨pre, rest⟩ ⟨fr, h, nx⟩ hst J hJ
      rw [hR2] at hst
      obtain ⟨g0, hps, g4, _⟩ := hst
      simp only at g0 hps g4
      have hpd : ∀ c ∈ pre, isDig c = true := fun c hc => hdg c (by rw [← hps]; simp [hc])
      have hrd : ∀ c ∈ rest, isDig c = true := fun c hc => hdg c (by rw [← hps]; simp [hc])
      have hlen : pre.length + rest.length = s.length := by rw [← hps]; simp
      rw [htrue (by simpa using hdg)] at hQ
      by_cases hr0 : rest = []
      · subst hr0
        have er : (([] : List UInt8) == []) = true := rfl
        rw [List.append_nil] at hps
        subst hps
        rcases g4 with g4 | ⟨hp, _⟩
        · simp (disch := omega) only [go_sem, Nat.reduceEqDiff, Nat.reduceBEq, ↓reduceIte, reduceCtorEq, g0, er, g4]
          rw [← hQ]
          exact post_two (.inl rfl) rfl (by simp [upd_app, g4] <;> omega) (by simp [upd_app] <;> omega) (by simp) rfl
        · exact absurd hp h0
      · have er : (rest == []) = false := by simpa using hr0
        have hrl : 0 < rest.length := List.length_pos_iff.2 hr0
        obtain ⟨X, hX⟩ : ∃ X, fr 4 = X := ⟨_, rfl⟩
        rw [hX] at g4
        have hXp : X.pure = true := by rcases g4 with rfl | ⟨_, rfl⟩ <;> simp [AV.pure, AV.pureL]
        obtain ⟨k, hk, hk0, hk9⟩ : ∃ k, (if rest.length % 9 = 0 then 9 else rest.length % 9) = k ∧ 0 < k ∧ k ≤ 9 := ⟨_, rfl, by split <;> omega, by split <;> omega⟩
        have hkl : k ≤ rest.length := by split at hk <;> omega
        have hcd : ∀ c ∈ rest.take k, isDig c = true := fun c hc => hrd c (List.mem_of_mem_take hc)
        have hcl : (rest.take k).length = k := by simp; omega
        have hPU := g_ParseUint (rest.take k) hcd (fun e => by rw [e] at hcl; simp at hcl; omega) (by omega)
        have hten := mul_ten (show k ≤ 18 by omega)
        have hcv : dval (rest.take k) < 1000000000000000000 := by have := dval_lt hcd; rw [hcl] at this; omega
        have hpe : (enc B32 (dval pre)).length ≤ 200 := Nat.le_trans (dval_enc (by decide) hpd) (by omega)
        have hte : (enc B32 (10 ^ k)).length ≤ 3 := enc_len_le B32_gt (by simp only [B32]; omega)
        have hce : (enc B32 (dval (rest.take k))).length ≤ 3 := enc_len_le B32_gt (by simp only [B32]; omega)
        have hmul : CallOk Tryz.prog 53 [X, natI (10 ^ k)] (natI (dval pre * 10 ^ k)) [] := by
          rcases g4 with rfl | ⟨rfl, rfl⟩
          · exact i_mul _ _ (by omega) (by omega)
          · have := i_mul 0 (10 ^ k) (by simp [enc_zero]) (by omega)
            rw [show dval [] = 0 from rfl]
            rw [nat0] at this
            exact this.args (SubL.cons sub_sl (SubL.refl _))
        have hnew : dval pre * 10 ^ k + dval (rest.take k) = dval (pre ++ rest.take k) := by rw [dval_append, hcl]
        have hpm : (enc B32 (dval pre * 10 ^ k)).length ≤ 1099511627776 := by
          have : (enc B32 (dval pre * 10 ^ k)).length ≤ (enc B32 (dval (pre ++ rest.take k))).length := enc_len_mono B32_gt (by rw [← hnew]; omega)
          have h2 := dval_enc (B := B32) (by decide) (s := pre ++ rest.take k) (fun c hc => by rcases List.mem_append.1 hc with h | h; exact hpd c h; exact hcd c h)
          simp only [List.length_append] at h2; omega
        have hadd := i_addTo (dval pre * 10 ^ k) (dval (rest.take k)) hpm (by omega)
        rw [hnew] at hadd
        have hfin : ∀ st : St, st.fr 0 = .str (rest.drop k) → st.fr 4 = natI (dval (pre ++ rest.take k)) → J st := fun st r0 r4 => hJ (pre ++ rest.take k, rest.drop k) st (by
          rw [hR2]; exact ⟨r0, by simp [hps], .inl r4, hdg⟩) (by simp; omega)
        clear hJ hR1 hR2 hbad htrue hQ hps
        simp (disch := omega) only [go_sem, ↓k_blockStop, Nat.reduceEqDiff, Nat.reduceBEq, ↓reduceIte, reduceCtorEq, g0, er, hX]; try unfold goB
        rw [k_block]
        obtain ⟨F, hF⟩ : ∃ F : St → Prop, F = fun st => st.fr 0 = .str rest ∧ st.fr 4 = X ∧ st.fr 6 = .int .i64 k := ⟨_, rfl⟩
        simp (disch := omega) only [go_sem, ↓k_condStop, Nat.reduceEqDiff, Nat.reduceBEq, ↓reduceIte, reduceCtorEq, g0, hX]; try unfold goS
        refine k_join F ?_ ?_
        · by_cases hk9' : rest.length % 9 = 0
          · rw [if_pos hk9'] at hk
            simp (disch := omega) only [go_sem, Nat.reduceEqDiff, Nat.reduceBEq, ↓reduceIte, reduceCtorEq, g0, hX, hk9']
            rw [hF]; exact ⟨(by simp [upd_app, g0] <;> omega), (by simp [upd_app, hX] <;> omega), (by simp [upd_app, hk] <;> omega)⟩
          · rw [if_neg hk9'] at hk
            simp (disch := omega) only [go_sem, Nat.reduceEqDiff, Nat.reduceBEq, ↓reduceIte, reduceCtorEq, g0, hX, hk]
            rw [hF]; exact ⟨(by simp [upd_app, g0] <;> omega), (by simp [upd_app, hX] <;> omega), (by simp [upd_app, hk] <;> omega)⟩
        clear hk
        rintro ⟨fr, h, nx⟩ hst
        rw [hF] at hst
        obtain ⟨g0, g4', g6⟩ := hst
        simp only at g0 g4' g6
        simp (disch := omega) only [go_sem, Nat.reduceEqDiff, Nat.reduceBEq, ↓reduceIte, reduceCtorEq, g0, g4', g6]
        refine x_callP hPU c_ParseUint (by simp [evA, upd_app, ofVal, ofCell]) (by simp [AV.pure, AV.pureL]) (by simp [AV.pure, AV.pureL]) ?_
        simp (disch := omega) only [go_sem, Nat.reduceEqDiff, Nat.reduceBEq, ↓reduceIte, reduceCtorEq, g0, g4', g6]
        refine k_loop (fun (i : Nat) st => st.fr 0 = .str rest ∧ st.fr 4 = X ∧ st.fr 6 = .int .i64 k ∧ st.fr 7 = .int .u64 (dval (rest.take k)) ∧ st.fr 9 = .int .u64 (10 ^ i : Nat) ∧ st.fr 58 = .int .i64 k ∧ st.fr 59 = .int .i64 i ∧ i ≤ k) (fun i => k - i) 0
          ⟨(by simp [upd_app, g0] <;> omega), (by simp [upd_app, g4'] <;> omega), (by simp [upd_app, g6] <;> omega), (by simp [upd_app] <;> omega), (by simp [upd_app] <;> omega), (by simp [upd_app, g6] <;> omega), (by simp [upd_app] <;> omega), by omega⟩ ?_
        rintro i ⟨fr, h, nx⟩ ⟨g0, g4', g6, g7, g9, g58, g59, hi⟩ J2 hJ2
        simp only at g0 g4' g6 g7 g9 g58 g59
        by_cases hik : i < k
        · have h10 := mul_ten (show i ≤ 18 by omega)
          have hs10 : 10 ^ i * 10 = 10 ^ (i + 1) := rfl
          obtain ⟨z, hz'⟩ : ∃ z, 10 ^ i = z := ⟨_, rfl⟩
          rw [hz'] at h10 hs10 g9
          simp (disch := omega) only [go_sem, Nat.reduceEqDiff, Nat.reduceBEq, ↓reduceIte, reduceCtorEq, g0, g4', g6, g7, g9, g58, g59]
          exact hJ2 (i + 1) _ ⟨(by simp [upd_app, g0] <;> omega), (by simp [upd_app, g4'] <;> omega), (by simp [upd_app, g6] <;> omega), (by simp [upd_app, g7] <;> omega), (by simp [upd_app, hs10] <;> omega), (by simp [upd_app, g58] <;> omega), (by simp [upd_app] <;> omega), hik⟩ (by omega)
        · obtain rfl : i = k := by omega
          simp (disch := omega) only [go_sem, Nat.reduceEqDiff, Nat.reduceBEq, ↓reduceIte, reduceCtorEq, g0, g4', g6, g7, g9, g58, g59]
          refine x_callP (i_natOf (10 ^ i) (by omega)) ci_natOf (by simp [evA, upd_app, ofVal, ofCell, g9]) (by simp [AV.pure, AV.pureL]) (by simp [AV.pure, AV.pureL]) ?_
          refine x_callP hmul ci_mul (by simp [evA, upd_app, g4']) (by simp [AV.pureL, hXp]) (by simp) ?_
          simp (disch := omega) only [go_sem, Nat.reduceEqDiff, Nat.reduceBEq, ↓reduceIte, reduceCtorEq, g7]
          refine x_callP (i_natOf (dval (rest.take i)) (by omega)) ci_natOf (by simp [evA, upd_app, ofVal, ofCell, g7]) (by simp [AV.pure, AV.pureL]) (by simp [AV.pure, AV.pureL]) ?_
          refine x_callP (hadd) ci_add (by simp [evA, upd_app, ofVal, ofCell]) (by simp [AV.pure, AV.pureL]) (by simp [AV.pure, AV.pureL]) ?_
          simp (disch := omega) only [go_sem, Nat.reduceEqDiff, Nat.reduceBEq, ↓reduceIte, reduceCtorEq, g0, g6, List.take_length]
          exact hfin _ (by simp [upd_app] <;> omega) (by simp [upd_app] <;> omega)
theorem ci_readRat : callable Tryz.prog 48 = true := by kernel_rfl
def firstQ (s : List UInt8) : List UInt8 := match findB 47 s with | some i => s.take i | none => s
def digsQ (s : List UInt8) : List UInt8 := if headB 45 (firstQ s) = true then (firstQ s).tail else firstQ s
def parseQ (s : List UInt8) : Option (Bool × Nat × Nat) :=
 if tokD (digsQ s) = true ∧ ¬ (headB 45 (firstQ s) = true ∧ dval (digsQ s) = 0) then
  match findB 47 s with
  | none => some (headB 45 (firstQ s), dval (digsQ s), 1)
  | some i => if tokD (s.drop (i + 1)) = true ∧ 1 < dval (s.drop (i + 1)) ∧ Nat.gcd (dval (digsQ s)) (dval (s.drop (i + 1))) = 1 then some (headB 45 (firstQ s), dval (digsQ s), dval (s.drop (i + 1))) else none
 else none
def ratI (q : Bool × Nat × Nat) : AV := .agg [.bool q.1, natI q.2.1, natI q.2.2]
def zrI : AV := .agg [.bool false, .nil, .nil]
@[simp] theorem ratI_pure (q : Bool × Nat × Nat) : (ratI q).pure = true := by simp [ratI, AV.pure, AV.pureL]
def readRatV (s : List UInt8) : AV := match parseQ s with | some q => .tup [ratI q, .bool true] | none => .tup [zrI, .bool false]
theorem post_cell {P : Program} {fn : Func} {n0 : Nat} {fl : Bool} {t u : Tmp} {T id : Nat} {x r s : AV} {st : St} {e : Ex} (he : e = .ret ∨ e = .normal) (hr : fn.results.toList = [.cell t T, .tmp u]) (hok : okT P T = true) (hv : st.fr t = .ptr id 1 0 0) (hlv : (st.h id).lv = true) (hx : (st.h id).xs = [x])
  (hl : ldA P T x 0 = some r) (hw : st.fr u = s) (hp : r.pure = true) (hq : s.pure = true) : Post P fn n0 fl false (.tup [r, s]) [] e st := by
 refine ⟨by rcases he with rfl | rfl <;> trivial, .tup [r, s], by rw [hr]; simp [resV, resL, resA, hv, hw, hok, loadA, hlv, hx, hl], [], ?_, .inl rfl⟩
 simp only [Bool.false_eq_true, if_false]
 exact ⟨snapA_pure (by simp [AV.pure, AV.pureL, hp, hq]), by simp⟩
theorem el_iRat {b : Bool} {m n : Nat} : AV.el Tryz.prog 70 (.agg [.bool b, natI m, natI n]) = true := by simp [AV.el, s_iRat, AV.cells, AV.one, natI]
theorem el_iRat0 {b : Bool} : AV.el Tryz.prog 70 (.agg [.bool b, .nil, .nil]) = true := by simp [AV.el, s_iRat, AV.cells, AV.one]
theorem el_boolT {b : Bool} : AV.el Tryz.prog 4 (.bool b) = true := by simp [AV.el, s_bool, AV.cells, AV.one]
theorem ld_iRat {b c d : AV} : ldA Tryz.prog 70 (.agg [b, c, d]) 0 = some (.agg [b, c, d]) := by simp [ldA, partA, g_iRat, s_iRat, AV.cells]
theorem el_iRatS {b : Bool} {t t' : Nat} {xs sp xs' sp' : List AV} {ex ex' : Bool} : AV.el Tryz.prog 70 (.agg [.bool b, .sl t xs sp ex, .sl t' xs' sp' ex']) = true := by simp [AV.el, s_iRat, AV.cells, AV.one]
theorem el_natS {t : Nat} {xs sp : List AV} {ex : Bool} : AV.el Tryz.prog 68 (.sl t xs sp ex) = true := by simp [AV.el, s_nat, AV.cells, AV.one]
attribute [go_sem] el_iRat el_iRat0 el_boolT ld_iRat el_iRatS el_natS
theorem i_readRat (s : List UInt8) (hs : s.length < 9223372036854775808) : CallOk Tryz.prog 48 [.str s] (readRatV s) [] := by
  have hCut := g_Cut s 47 hs
  have hfl : (firstQ s).length ≤ s.length := by unfold firstQ; split <;> simp; omega
  have hPre := g_CutPrefix (firstQ s) 45 (by omega)
  have hdl : (digsQ s).length ≤ s.length := by
    unfold digsQ; split
    · simp; omega
    · exact hfl
  have hN1 := i_readNat (digsQ s) (by omega)
  rw [show (if headB 45 (firstQ s) = true then (firstQ s).tail else firstQ s) = digsQ s from rfl] at hPre
  have hfail : ∀ (st : St), st.fr 2 = .ptr 0 1 0 0 → (st.h 0).lv = true → (st.h 0).xs = [zrI] → st.fr 3 = .bool false → parseQ s = none → Post Tryz.prog Tryz.f48 (matL false [AV.str s] st00).2.nx (AV.flatL [AV.str s]) false (readRatV s) [] .ret st := by
    intro st k2 kl kx k3 hp
    rw [readRatV, hp]
    exact post_cell (x := zrI) (.inl rfl) rfl o_iRat k2 kl kx ld_iRat k3 rfl rfl
  have hgood : ∀ (st : St) (q : Bool × Nat × Nat), st.fr 2 = .ptr 0 1 0 0 → (st.h 0).lv = true → (st.h 0).xs = [ratI q] → st.fr 3 = .bool true → parseQ s = some q → Post Tryz.prog Tryz.f48 (matL false [AV.str s] st00).2.nx (AV.flatL [AV.str s]) false (readRatV s) [] .ret st := by
    intro st q k2 kl kx k3 hp
    rw [readRatV, hp]
    exact post_cell (x := ratI q) (.inl rfl) rfl o_iRat k2 kl kx ld_iRat k3 (by simp) rfl
  have hone := i_natOf 1 (by omega)
  have e0 : [AV.bool false, AV.nil, AV.nil].length = 3 := rfl
  obtain ⟨second, isS, hCut', hsec⟩ : ∃ (second : List UInt8) (isS : Bool), CallOk Tryz.prog 69 [.str s, .str [47]] (.tup [.str (firstQ s), .str second, .bool isS]) [] ∧ ((isS = false ∧ findB 47 s = none) ∨ ∃ i, isS = true ∧ findB 47 s = some i ∧ second = s.drop (i + 1)) := by
    unfold cutV at hCut
    cases hf : findB 47 s with
    | none => simp only [hf] at hCut; exact ⟨[], false, by simpa [firstQ, hf] using hCut, .inl ⟨rfl, rfl⟩⟩
    | some i => simp only [hf] at hCut; exact ⟨_, true, by simpa [firstQ, hf] using hCut, .inr ⟨i, rfl, rfl, rfl⟩⟩
  have hsl : second.length ≤ s.length ∨ isS = false := by
    rcases hsec with ⟨h, _⟩ | ⟨i, _, _, rfl⟩
    · exact .inr h
    · left; simp
  have htk : tokD (digsQ s) = true → (enc B32 (dval (digsQ s))).length ≤ 200 := fun h => by
    obtain ⟨_, b, c⟩ := tok_len h
    exact Nat.le_trans (dval_enc (by decide) c) b
  obtain ⟨neg, hneg⟩ : ∃ neg, headB 45 (firstQ s) = neg := ⟨_, rfl⟩
  obtain ⟨fs, hfs⟩ : ∃ fs, firstQ s = fs := ⟨_, rfl⟩
  have hpq : parseQ s = if tokD (digsQ s) = true ∧ ¬ (neg = true ∧ dval (digsQ s) = 0) then
    match findB 47 s with
    | none => some (neg, dval (digsQ s), 1)
    | some i => if tokD (s.drop (i + 1)) = true ∧ 1 < dval (s.drop (i + 1)) ∧ Nat.gcd (dval (digsQ s)) (dval (s.drop (i + 1))) = 1 then some (neg, dval (digsQ s), dval (s.drop (i + 1))) else none
  else none := by rw [parseQ, hneg]
  obtain ⟨D, hD⟩ : ∃ D, digsQ s = D := ⟨_, rfl⟩
  rw [hD] at hPre hN1 htk hpq
  rw [hneg, hfs] at hPre
  rw [hfs] at hCut'
  clear hCut hfl hdl hneg
  cases htd : tokD D with
  | false =>
    rw [htd] at hpq
    simp only [Bool.false_eq_true, false_and, if_false] at hpq
    simp only [readNatV, htd, Bool.false_eq_true, if_false] at hN1
    (refine callOk_of_wpc (W := fun _ => false) false hm' Tryz.func48 rfl (by kernel_rfl) (Nat.le_of_ble_eq_true rfl) (go_start ?_); generalize hQ : Post Tryz.prog Tryz.f48 _ _ _ _ _ = Q; simp only [stIn, matL, matA, st00])
    simp (disch := omega) only [go_sem, Nat.reduceEqDiff, Nat.reduceBEq, ↓reduceIte, reduceCtorEq, zrI, e0]
    refine x_callP (hCut') c_Cut (by simp [evA, upd_app, ofVal, ofCell]) (by simp [AV.pure, AV.pureL]) (by simp [AV.pure, AV.pureL]) ?_
    simp (disch := omega) only [go_sem, Nat.reduceEqDiff, Nat.reduceBEq, ↓reduceIte, reduceCtorEq, natI]
    refine x_callP (hPre) c_CutPrefix (by simp [evA, upd_app, ofVal, ofCell]) (by simp [AV.pure, AV.pureL]) (by simp [AV.pure, AV.pureL]) ?_
    simp (disch := omega) only [go_sem, Nat.reduceEqDiff, Nat.reduceBEq, ↓reduceIte, reduceCtorEq, natI]
    refine x_callP (hN1) ci_readNat (by simp [evA, upd_app, ofVal, ofCell]) (by simp [AV.pure, AV.pureL]) (by simp [AV.pure, AV.pureL]) ?_
    simp (disch := omega) only [go_sem, Nat.reduceEqDiff, Nat.reduceBEq, ↓reduceIte, reduceCtorEq, e0, natI]
    rw [← hQ]
    exact hfail _ (by simp [upd_app] <;> omega) (by simp [upd_app]) (by simp [upd_app, zrI]) (by simp [upd_app] <;> omega) hpq
  | true =>
    have htl := htk htd
    simp only [readNatV, htd, if_true] at hN1
    rw [htd] at hpq
    simp only [true_and] at hpq
    obtain ⟨v, hv⟩ : ∃ v, dval D = v := ⟨_, rfl⟩
    rw [hv] at hN1 hpq htl
    by_cases hnz : neg = true ∧ v = 0
    · obtain ⟨rfl, rfl⟩ := hnz
      simp only [and_self, not_true_eq_false, if_false] at hpq
      have hz : natI 0 = .sl 114 [] [] false := by simp [natI, enc_zero, natA]
      rw [hz] at hN1
      (refine callOk_of_wpc (W := fun _ => false) false hm' Tryz.func48 rfl (by kernel_rfl) (Nat.le_of_ble_eq_true rfl) (go_start ?_); generalize hQ : Post Tryz.prog Tryz.f48 _ _ _ _ _ = Q; simp only [stIn, matL, matA, st00])
      simp (disch := omega) only [go_sem, Nat.reduceEqDiff, Nat.reduceBEq, ↓reduceIte, reduceCtorEq, zrI, e0]
      refine x_callP (hCut') c_Cut (by simp [evA, upd_app, ofVal, ofCell]) (by simp [AV.pure, AV.pureL]) (by simp [AV.pure, AV.pureL]) ?_
      simp (disch := omega) only [go_sem, Nat.reduceEqDiff, Nat.reduceBEq, ↓reduceIte, reduceCtorEq, natI]
      refine x_callP (hPre) c_CutPrefix (by simp [evA, upd_app, ofVal, ofCell]) (by simp [AV.pure, AV.pureL]) (by simp [AV.pure, AV.pureL]) ?_
      simp (disch := omega) only [go_sem, Nat.reduceEqDiff, Nat.reduceBEq, ↓reduceIte, reduceCtorEq, natI]
      refine x_callP (hN1) ci_readNat (by simp [evA, upd_app, ofVal, ofCell]) (by simp [AV.pure, AV.pureL]) (by simp [AV.pure, AV.pureL]) ?_
      simp (disch := omega) only [go_sem, Nat.reduceEqDiff, Nat.reduceBEq, ↓reduceIte, reduceCtorEq, e0, List.length_nil]
      rw [← hQ]
      exact hfail _ (by simp [upd_app] <;> omega) (by simp [upd_app]) (by simp [upd_app, zrI]) (by simp [upd_app] <;> omega) hpq
    · rw [if_pos hnz] at hpq
      have hvl : neg = true → 0 < (enc B32 v).length := fun h => enc_len_pos B32_gt (fun h0 => hnz ⟨h, h0⟩)
      have hzero : ∀ n : Nat, AV.el Tryz.prog 70 (.agg [.bool neg, natI v, natI n]) = true := fun n => el_iRat
      rcases hsec with ⟨rfl, hf⟩ | ⟨i, rfl, hf, rfl⟩
      · rw [hf] at hpq
        simp only at hpq
        cases neg with
        | false =>
          (refine callOk_of_wpc (W := fun _ => false) false hm' Tryz.func48 rfl (by kernel_rfl) (Nat.le_of_ble_eq_true rfl) (go_start ?_); generalize hQ : Post Tryz.prog Tryz.f48 _ _ _ _ _ = Q; simp only [stIn, matL, matA, st00])
          simp (disch := omega) only [go_sem, Nat.reduceEqDiff, Nat.reduceBEq, ↓reduceIte, reduceCtorEq, zrI, e0]
          refine x_callP (hCut') c_Cut (by simp [evA, upd_app, ofVal, ofCell]) (by simp [AV.pure, AV.pureL]) (by simp [AV.pure, AV.pureL]) ?_
          simp (disch := omega) only [go_sem, Nat.reduceEqDiff, Nat.reduceBEq, ↓reduceIte, reduceCtorEq, natI]
          refine x_callP (hPre) c_CutPrefix (by simp [evA, upd_app, ofVal, ofCell]) (by simp [AV.pure, AV.pureL]) (by simp [AV.pure, AV.pureL]) ?_
          simp (disch := omega) only [go_sem, Nat.reduceEqDiff, Nat.reduceBEq, ↓reduceIte, reduceCtorEq, natI]
          refine x_callP (hN1) ci_readNat (by simp [evA, upd_app, ofVal, ofCell]) (by simp [AV.pure, AV.pureL]) (by simp [AV.pure, AV.pureL]) ?_
          simp (disch := omega) only [go_sem, Nat.reduceEqDiff, Nat.reduceBEq, ↓reduceIte, reduceCtorEq, natI]
          refine x_callP hone ci_natOf (by simp [evA, upd_app, ofVal, ofCell]) (by simp [AV.pure, AV.pureL]) (by simp) ?_
          simp (disch := omega) only [go_sem, Nat.reduceEqDiff, Nat.reduceBEq, ↓reduceIte, reduceCtorEq, e0, natI, List.take_succ_cons, List.take_zero, ld_iRat]
          rw [← hQ]
          refine hgood _ (_, v, 1) ?_ ?_ ?_ ?_ hpq
          · exact (by simp [upd_app] <;> omega)
          · simp [upd_app]
          · simp only [upd_app, ↓reduceIte, ratI, natI]
          · exact (by simp [upd_app] <;> omega)
        | true =>
          have hvl' := hvl rfl
          (refine callOk_of_wpc (W := fun _ => false) false hm' Tryz.func48 rfl (by kernel_rfl) (Nat.le_of_ble_eq_true rfl) (go_start ?_); generalize hQ : Post Tryz.prog Tryz.f48 _ _ _ _ _ = Q; simp only [stIn, matL, matA, st00])
          simp (disch := omega) only [go_sem, Nat.reduceEqDiff, Nat.reduceBEq, ↓reduceIte, reduceCtorEq, zrI, e0]
          refine x_callP (hCut') c_Cut (by simp [evA, upd_app, ofVal, ofCell]) (by simp [AV.pure, AV.pureL]) (by simp [AV.pure, AV.pureL]) ?_
          simp (disch := omega) only [go_sem, Nat.reduceEqDiff, Nat.reduceBEq, ↓reduceIte, reduceCtorEq, natI]
          refine x_callP (hPre) c_CutPrefix (by simp [evA, upd_app, ofVal, ofCell]) (by simp [AV.pure, AV.pureL]) (by simp [AV.pure, AV.pureL]) ?_
          simp (disch := omega) only [go_sem, Nat.reduceEqDiff, Nat.reduceBEq, ↓reduceIte, reduceCtorEq, natI]
          refine x_callP (hN1) ci_readNat (by simp [evA, upd_app, ofVal, ofCell]) (by simp [AV.pure, AV.pureL]) (by simp [AV.pure, AV.pureL]) ?_
          simp (disch := omega) only [go_sem, Nat.reduceEqDiff, Nat.reduceBEq, ↓reduceIte, reduceCtorEq, natI]
          refine x_callP hone ci_natOf (by simp [evA, upd_app, ofVal, ofCell]) (by simp [AV.pure, AV.pureL]) (by simp) ?_
          simp (disch := omega) only [go_sem, Nat.reduceEqDiff, Nat.reduceBEq, ↓reduceIte, reduceCtorEq, e0, natI, List.take_succ_cons, List.take_zero, ld_iRat]
          rw [← hQ]
          refine hgood _ (_, v, 1) ?_ ?_ ?_ ?_ hpq
          · exact (by simp [upd_app] <;> omega)
          · simp [upd_app]
          · simp only [upd_app, ↓reduceIte, ratI, natI]
          · exact (by simp [upd_app] <;> omega)
      · rw [hf] at hpq
        simp only at hpq
        have hsl' : (s.drop (i + 1)).length ≤ s.length := by simp
        have hN2 := i_readNat (s.drop (i + 1)) (by omega)
        have htk2 : tokD (s.drop (i + 1)) = true → (enc B32 (dval (s.drop (i + 1)))).length ≤ 200 := fun h => by
          obtain ⟨_, b, c⟩ := tok_len h
          exact Nat.le_trans (dval_enc (by decide) c) b
        have he1 : (enc B32 1).length ≤ 1 := enc_len_le B32_gt (by decide)
        rcases Bool.eq_false_or_eq_true neg with rfl | rfl
        · have hvl' := hvl rfl
          cases hte : tokD (s.drop (i + 1)) with
          | false =>
            simp only [hte, Bool.false_eq_true, false_and, if_false] at hpq
            simp only [readNatV, hte, Bool.false_eq_true, if_false] at hN2
            (refine callOk_of_wpc (W := fun _ => false) false hm' Tryz.func48 rfl (by kernel_rfl) (Nat.le_of_ble_eq_true rfl) (go_start ?_); generalize hQ : Post Tryz.prog Tryz.f48 _ _ _ _ _ = Q; simp only [stIn, matL, matA, st00])
            simp (disch := omega) only [go_sem, Nat.reduceEqDiff, Nat.reduceBEq, ↓reduceIte, reduceCtorEq, zrI, e0]
            refine x_callP (hCut') c_Cut (by simp [evA, upd_app, ofVal, ofCell]) (by simp [AV.pure, AV.pureL]) (by simp [AV.pure, AV.pureL]) ?_
            simp (disch := omega) only [go_sem, Nat.reduceEqDiff, Nat.reduceBEq, ↓reduceIte, reduceCtorEq, natI]
            refine x_callP (hPre) c_CutPrefix (by simp [evA, upd_app, ofVal, ofCell]) (by simp [AV.pure, AV.pureL]) (by simp [AV.pure, AV.pureL]) ?_
            simp (disch := omega) only [go_sem, Nat.reduceEqDiff, Nat.reduceBEq, ↓reduceIte, reduceCtorEq, natI]
            refine x_callP (hN1) ci_readNat (by simp [evA, upd_app, ofVal, ofCell]) (by simp [AV.pure, AV.pureL]) (by simp [AV.pure, AV.pureL]) ?_
            simp (disch := omega) only [go_sem, Nat.reduceEqDiff, Nat.reduceBEq, ↓reduceIte, reduceCtorEq, natI]
            refine x_callP hone ci_natOf (by simp [evA, upd_app, ofVal, ofCell]) (by simp [AV.pure, AV.pureL]) (by simp) ?_
            simp (disch := omega) only [go_sem, Nat.reduceEqDiff, Nat.reduceBEq, ↓reduceIte, reduceCtorEq, e0, natI]
            refine x_callP (hN2) ci_readNat (by simp [evA, upd_app, ofVal, ofCell]) (by simp [AV.pure, AV.pureL]) (by simp [AV.pure, AV.pureL]) ?_
            simp (disch := omega) only [go_sem, Nat.reduceEqDiff, Nat.reduceBEq, ↓reduceIte, reduceCtorEq, e0, natI]
            rw [← hQ]
            exact hfail _ (by simp [upd_app] <;> omega) (by simp [upd_app]) (by simp [upd_app, zrI]) (by simp [upd_app] <;> omega) hpq
          | true =>
            have htl2 := htk2 hte
            simp only [hte, true_and] at hpq
            simp only [readNatV, hte, if_true] at hN2
            obtain ⟨u, hu⟩ : ∃ u, dval (s.drop (i + 1)) = u := ⟨_, rfl⟩
            rw [hu] at hN2 hpq htl2
            have hcmp := i_Cmp u 1 (by omega) (by omega)
            have hgcd := i_gcd v u (by omega) (by omega)
            by_cases hu1 : 1 < u
            · have hc1 : cmpI u 1 = 1 := cmpI_gt hu1
              rw [hc1] at hcmp
              obtain ⟨g, hg⟩ : ∃ g, Nat.gcd v u = g := ⟨_, rfl⟩
              rw [hg] at hgcd
              simp only [hg] at hpq
              have hgu : g ≤ u := by rw [← hg]; exact Nat.gcd_le_right v (by omega)
              have hgl := enc_len_mono B32_gt hgu
              have hcg := i_Cmp g 1 (by omega) (by omega)
              by_cases hg1 : g = 1
              · subst hg1
                rw [cmpI_eq] at hcg
                simp only [hu1, and_self, if_true] at hpq
                (refine callOk_of_wpc (W := fun _ => false) false hm' Tryz.func48 rfl (by kernel_rfl) (Nat.le_of_ble_eq_true rfl) (go_start ?_); generalize hQ : Post Tryz.prog Tryz.f48 _ _ _ _ _ = Q; simp only [stIn, matL, matA, st00])
                simp (disch := omega) only [go_sem, Nat.reduceEqDiff, Nat.reduceBEq, ↓reduceIte, reduceCtorEq, zrI, e0]
                refine x_callP (hCut') c_Cut (by simp [evA, upd_app, ofVal, ofCell]) (by simp [AV.pure, AV.pureL]) (by simp [AV.pure, AV.pureL]) ?_
                simp (disch := omega) only [go_sem, Nat.reduceEqDiff, Nat.reduceBEq, ↓reduceIte, reduceCtorEq, natI]
                refine x_callP (hPre) c_CutPrefix (by simp [evA, upd_app, ofVal, ofCell]) (by simp [AV.pure, AV.pureL]) (by simp [AV.pure, AV.pureL]) ?_
                simp (disch := omega) only [go_sem, Nat.reduceEqDiff, Nat.reduceBEq, ↓reduceIte, reduceCtorEq, natI]
                refine x_callP (hN1) ci_readNat (by simp [evA, upd_app, ofVal, ofCell]) (by simp [AV.pure, AV.pureL]) (by simp [AV.pure, AV.pureL]) ?_
                simp (disch := omega) only [go_sem, Nat.reduceEqDiff, Nat.reduceBEq, ↓reduceIte, reduceCtorEq, natI]
                refine x_callP hone ci_natOf (by simp [evA, upd_app, ofVal, ofCell]) (by simp [AV.pure, AV.pureL]) (by simp) ?_
                simp (disch := omega) only [go_sem, Nat.reduceEqDiff, Nat.reduceBEq, ↓reduceIte, reduceCtorEq, e0, natI]
                refine x_callP (hN2) ci_readNat (by simp [evA, upd_app, ofVal, ofCell]) (by simp [AV.pure, AV.pureL]) (by simp [AV.pure, AV.pureL]) ?_
                simp (disch := omega) only [go_sem, Nat.reduceEqDiff, Nat.reduceBEq, ↓reduceIte, reduceCtorEq, natI]
                refine x_callP hone ci_natOf (by simp [evA, upd_app, ofVal, ofCell]) (by simp [AV.pure, AV.pureL]) (by simp) ?_
                simp (disch := omega) only [go_sem, Nat.reduceEqDiff, Nat.reduceBEq, ↓reduceIte, reduceCtorEq, natI]
                refine x_callP hcmp ci_cmp (by simp [evA, upd_app, natI]) (by simp [AV.pureL]) rfl ?_
                simp (disch := omega) only [go_sem, Nat.reduceEqDiff, Nat.reduceBEq, ↓reduceIte, reduceCtorEq, natI]
                refine x_callP hgcd ci_gcd (by simp [evA, upd_app, natI]) (by simp [AV.pureL]) (by simp) ?_
                simp (disch := omega) only [go_sem, Nat.reduceEqDiff, Nat.reduceBEq, ↓reduceIte, reduceCtorEq, natI]
                refine x_callP hone ci_natOf (by simp [evA, upd_app, ofVal, ofCell]) (by simp [AV.pure, AV.pureL]) (by simp) ?_
                refine x_callP hcg ci_cmp (by simp [evA, upd_app, natI]) (by simp [AV.pureL]) rfl ?_
                simp (disch := omega) only [go_sem, Nat.reduceEqDiff, Nat.reduceBEq, ↓reduceIte, reduceCtorEq, e0, natI]
                rw [← hQ]
                refine hgood _ (_, v, u) ?_ ?_ ?_ ?_ hpq
                · exact (by simp [upd_app] <;> omega)
                · simp [upd_app]
                · simp only [upd_app, ↓reduceIte, ratI, natI]
                · exact (by simp [upd_app] <;> omega)
              · have hcn : cmpI g 1 ≠ 0 := by
                  rcases Nat.lt_trichotomy g 1 with h | h | h
                  · rw [cmpI_lt h]; decide
                  · exact absurd h hg1
                  · rw [cmpI_gt h]; decide
                rw [if_neg (fun h => hg1 h.2)] at hpq
                (refine callOk_of_wpc (W := fun _ => false) false hm' Tryz.func48 rfl (by kernel_rfl) (Nat.le_of_ble_eq_true rfl) (go_start ?_); generalize hQ : Post Tryz.prog Tryz.f48 _ _ _ _ _ = Q; simp only [stIn, matL, matA, st00])
                simp (disch := omega) only [go_sem, Nat.reduceEqDiff, Nat.reduceBEq, ↓reduceIte, reduceCtorEq, zrI, e0]
                refine x_callP (hCut') c_Cut (by simp [evA, upd_app, ofVal, ofCell]) (by simp [AV.pure, AV.pureL]) (by simp [AV.pure, AV.pureL]) ?_
                simp (disch := omega) only [go_sem, Nat.reduceEqDiff, Nat.reduceBEq, ↓reduceIte, reduceCtorEq, natI]
                refine x_callP (hPre) c_CutPrefix (by simp [evA, upd_app, ofVal, ofCell]) (by simp [AV.pure, AV.pureL]) (by simp [AV.pure, AV.pureL]) ?_
                simp (disch := omega) only [go_sem, Nat.reduceEqDiff, Nat.reduceBEq, ↓reduceIte, reduceCtorEq, natI]
                refine x_callP (hN1) ci_readNat (by simp [evA, upd_app, ofVal, ofCell]) (by simp [AV.pure, AV.pureL]) (by simp [AV.pure, AV.pureL]) ?_
                simp (disch := omega) only [go_sem, Nat.reduceEqDiff, Nat.reduceBEq, ↓reduceIte, reduceCtorEq, natI]
                refine x_callP hone ci_natOf (by simp [evA, upd_app, ofVal, ofCell]) (by simp [AV.pure, AV.pureL]) (by simp) ?_
                simp (disch := omega) only [go_sem, Nat.reduceEqDiff, Nat.reduceBEq, ↓reduceIte, reduceCtorEq, e0, natI]
                refine x_callP (hN2) ci_readNat (by simp [evA, upd_app, ofVal, ofCell]) (by simp [AV.pure, AV.pureL]) (by simp [AV.pure, AV.pureL]) ?_
                simp (disch := omega) only [go_sem, Nat.reduceEqDiff, Nat.reduceBEq, ↓reduceIte, reduceCtorEq, natI]
                refine x_callP hone ci_natOf (by simp [evA, upd_app, ofVal, ofCell]) (by simp [AV.pure, AV.pureL]) (by simp) ?_
                simp (disch := omega) only [go_sem, Nat.reduceEqDiff, Nat.reduceBEq, ↓reduceIte, reduceCtorEq, natI]
                refine x_callP hcmp ci_cmp (by simp [evA, upd_app, natI]) (by simp [AV.pureL]) rfl ?_
                simp (disch := omega) only [go_sem, Nat.reduceEqDiff, Nat.reduceBEq, ↓reduceIte, reduceCtorEq, natI]
                refine x_callP hgcd ci_gcd (by simp [evA, upd_app, natI]) (by simp [AV.pureL]) (by simp) ?_
                simp (disch := omega) only [go_sem, Nat.reduceEqDiff, Nat.reduceBEq, ↓reduceIte, reduceCtorEq, natI]
                refine x_callP hone ci_natOf (by simp [evA, upd_app, ofVal, ofCell]) (by simp [AV.pure, AV.pureL]) (by simp) ?_
                refine x_callP hcg ci_cmp (by simp [evA, upd_app, natI]) (by simp [AV.pureL]) rfl ?_
                simp (disch := omega) only [go_sem, Nat.reduceEqDiff, Nat.reduceBEq, ↓reduceIte, reduceCtorEq, e0, natI]
                rw [← hQ]
                exact hfail _ (by simp [upd_app] <;> omega) (by simp [upd_app]) (by simp [upd_app, zrI]) (by simp [upd_app] <;> omega) hpq
            · have hc1 : cmpI u 1 ≤ 0 := by
                rcases Nat.lt_or_ge u 1 with h | h
                · rw [cmpI_lt h]; decide
                · rw [show u = 1 by omega, cmpI_eq]; decide
              rw [if_neg (fun h => hu1 h.1)] at hpq
              (refine callOk_of_wpc (W := fun _ => false) false hm' Tryz.func48 rfl (by kernel_rfl) (Nat.le_of_ble_eq_true rfl) (go_start ?_); generalize hQ : Post Tryz.prog Tryz.f48 _ _ _ _ _ = Q; simp only [stIn, matL, matA, st00])
              simp (disch := omega) only [go_sem, Nat.reduceEqDiff, Nat.reduceBEq, ↓reduceIte, reduceCtorEq, zrI, e0]
              refine x_callP (hCut') c_Cut (by simp [evA, upd_app, ofVal, ofCell]) (by simp [AV.pure, AV.pureL]) (by simp [AV.pure, AV.pureL]) ?_
              simp (disch := omega) only [go_sem, Nat.reduceEqDiff, Nat.reduceBEq, ↓reduceIte, reduceCtorEq, natI]
              refine x_callP (hPre) c_CutPrefix (by simp [evA, upd_app, ofVal, ofCell]) (by simp [AV.pure, AV.pureL]) (by simp [AV.pure, AV.pureL]) ?_
              simp (disch := omega) only [go_sem, Nat.reduceEqDiff, Nat.reduceBEq, ↓reduceIte, reduceCtorEq, natI]
              refine x_callP (hN1) ci_readNat (by simp [evA, upd_app, ofVal, ofCell]) (by simp [AV.pure, AV.pureL]) (by simp [AV.pure, AV.pureL]) ?_
              simp (disch := omega) only [go_sem, Nat.reduceEqDiff, Nat.reduceBEq, ↓reduceIte, reduceCtorEq, natI]
              refine x_callP hone ci_natOf (by simp [evA, upd_app, ofVal, ofCell]) (by simp [AV.pure, AV.pureL]) (by simp) ?_
              simp (disch := omega) only [go_sem, Nat.reduceEqDiff, Nat.reduceBEq, ↓reduceIte, reduceCtorEq, e0, natI]
              refine x_callP (hN2) ci_readNat (by simp [evA, upd_app, ofVal, ofCell]) (by simp [AV.pure, AV.pureL]) (by simp [AV.pure, AV.pureL]) ?_
              simp (disch := omega) only [go_sem, Nat.reduceEqDiff, Nat.reduceBEq, ↓reduceIte, reduceCtorEq, natI]
              refine x_callP hone ci_natOf (by simp [evA, upd_app, ofVal, ofCell]) (by simp [AV.pure, AV.pureL]) (by simp) ?_
              simp (disch := omega) only [go_sem, Nat.reduceEqDiff, Nat.reduceBEq, ↓reduceIte, reduceCtorEq, natI]
              refine x_callP hcmp ci_cmp (by simp [evA, upd_app, natI]) (by simp [AV.pureL]) rfl ?_
              simp (disch := omega) only [go_sem, Nat.reduceEqDiff, Nat.reduceBEq, ↓reduceIte, reduceCtorEq, e0, natI]
              rw [← hQ]
              exact hfail _ (by simp [upd_app] <;> omega) (by simp [upd_app]) (by simp [upd_app, zrI]) (by simp [upd_app] <;> omega) hpq
        · skip
          cases hte : tokD (s.drop (i + 1)) with
          | false =>
            simp only [hte, Bool.false_eq_true, false_and, if_false] at hpq
            simp only [readNatV, hte, Bool.false_eq_true, if_false] at hN2
            (refine callOk_of_wpc (W := fun _ => false) false hm' Tryz.func48 rfl (by kernel_rfl) (Nat.le_of_ble_eq_true rfl) (go_start ?_); generalize hQ : Post Tryz.prog Tryz.f48 _ _ _ _ _ = Q; simp only [stIn, matL, matA, st00])
            simp (disch := omega) only [go_sem, Nat.reduceEqDiff, Nat.reduceBEq, ↓reduceIte, reduceCtorEq, zrI, e0]
            refine x_callP (hCut') c_Cut (by simp [evA, upd_app, ofVal, ofCell]) (by simp [AV.pure, AV.pureL]) (by simp [AV.pure, AV.pureL]) ?_
            simp (disch := omega) only [go_sem, Nat.reduceEqDiff, Nat.reduceBEq, ↓reduceIte, reduceCtorEq, natI]
            refine x_callP (hPre) c_CutPrefix (by simp [evA, upd_app, ofVal, ofCell]) (by simp [AV.pure, AV.pureL]) (by simp [AV.pure, AV.pureL]) ?_
            simp (disch := omega) only [go_sem, Nat.reduceEqDiff, Nat.reduceBEq, ↓reduceIte, reduceCtorEq, natI]
            refine x_callP (hN1) ci_readNat (by simp [evA, upd_app, ofVal, ofCell]) (by simp [AV.pure, AV.pureL]) (by simp [AV.pure, AV.pureL]) ?_
            simp (disch := omega) only [go_sem, Nat.reduceEqDiff, Nat.reduceBEq, ↓reduceIte, reduceCtorEq, natI]
            refine x_callP hone ci_natOf (by simp [evA, upd_app, ofVal, ofCell]) (by simp [AV.pure, AV.pureL]) (by simp) ?_
            simp (disch := omega) only [go_sem, Nat.reduceEqDiff, Nat.reduceBEq, ↓reduceIte, reduceCtorEq, e0, natI]
            refine x_callP (hN2) ci_readNat (by simp [evA, upd_app, ofVal, ofCell]) (by simp [AV.pure, AV.pureL]) (by simp [AV.pure, AV.pureL]) ?_
            simp (disch := omega) only [go_sem, Nat.reduceEqDiff, Nat.reduceBEq, ↓reduceIte, reduceCtorEq, e0, natI]
            rw [← hQ]
            exact hfail _ (by simp [upd_app] <;> omega) (by simp [upd_app]) (by simp [upd_app, zrI]) (by simp [upd_app] <;> omega) hpq
          | true =>
            have htl2 := htk2 hte
            simp only [hte, true_and] at hpq
            simp only [readNatV, hte, if_true] at hN2
            obtain ⟨u, hu⟩ : ∃ u, dval (s.drop (i + 1)) = u := ⟨_, rfl⟩
            rw [hu] at hN2 hpq htl2
            have hcmp := i_Cmp u 1 (by omega) (by omega)
            have hgcd := i_gcd v u (by omega) (by omega)
            by_cases hu1 : 1 < u
            · have hc1 : cmpI u 1 = 1 := cmpI_gt hu1
              rw [hc1] at hcmp
              obtain ⟨g, hg⟩ : ∃ g, Nat.gcd v u = g := ⟨_, rfl⟩
              rw [hg] at hgcd
              simp only [hg] at hpq
              have hgu : g ≤ u := by rw [← hg]; exact Nat.gcd_le_right v (by omega)
              have hgl := enc_len_mono B32_gt hgu
              have hcg := i_Cmp g 1 (by omega) (by omega)
              by_cases hg1 : g = 1
              · subst hg1
                rw [cmpI_eq] at hcg
                simp only [hu1, and_self, if_true] at hpq
                (refine callOk_of_wpc (W := fun _ => false) false hm' Tryz.func48 rfl (by kernel_rfl) (Nat.le_of_ble_eq_true rfl) (go_start ?_); generalize hQ : Post Tryz.prog Tryz.f48 _ _ _ _ _ = Q; simp only [stIn, matL, matA, st00])
                simp (disch := omega) only [go_sem, Nat.reduceEqDiff, Nat.reduceBEq, ↓reduceIte, reduceCtorEq, zrI, e0]
                refine x_callP (hCut') c_Cut (by simp [evA, upd_app, ofVal, ofCell]) (by simp [AV.pure, AV.pureL]) (by simp [AV.pure, AV.pureL]) ?_
                simp (disch := omega) only [go_sem, Nat.reduceEqDiff, Nat.reduceBEq, ↓reduceIte, reduceCtorEq, natI]
                refine x_callP (hPre) c_CutPrefix (by simp [evA, upd_app, ofVal, ofCell]) (by simp [AV.pure, AV.pureL]) (by simp [AV.pure, AV.pureL]) ?_
                simp (disch := omega) only [go_sem, Nat.reduceEqDiff, Nat.reduceBEq, ↓reduceIte, reduceCtorEq, natI]
                refine x_callP (hN1) ci_readNat (by simp [evA, upd_app, ofVal, ofCell]) (by simp [AV.pure, AV.pureL]) (by simp [AV.pure, AV.pureL]) ?_
                simp (disch := omega) only [go_sem, Nat.reduceEqDiff, Nat.reduceBEq, ↓reduceIte, reduceCtorEq, natI]
                refine x_callP hone ci_natOf (by simp [evA, upd_app, ofVal, ofCell]) (by simp [AV.pure, AV.pureL]) (by simp) ?_
                simp (disch := omega) only [go_sem, Nat.reduceEqDiff, Nat.reduceBEq, ↓reduceIte, reduceCtorEq, e0, natI]
                refine x_callP (hN2) ci_readNat (by simp [evA, upd_app, ofVal, ofCell]) (by simp [AV.pure, AV.pureL]) (by simp [AV.pure, AV.pureL]) ?_
                simp (disch := omega) only [go_sem, Nat.reduceEqDiff, Nat.reduceBEq, ↓reduceIte, reduceCtorEq, natI]
                refine x_callP hone ci_natOf (by simp [evA, upd_app, ofVal, ofCell]) (by simp [AV.pure, AV.pureL]) (by simp) ?_
                simp (disch := omega) only [go_sem, Nat.reduceEqDiff, Nat.reduceBEq, ↓reduceIte, reduceCtorEq, natI]
                refine x_callP hcmp ci_cmp (by simp [evA, upd_app, natI]) (by simp [AV.pureL]) rfl ?_
                simp (disch := omega) only [go_sem, Nat.reduceEqDiff, Nat.reduceBEq, ↓reduceIte, reduceCtorEq, natI]
                refine x_callP hgcd ci_gcd (by simp [evA, upd_app, natI]) (by simp [AV.pureL]) (by simp) ?_
                simp (disch := omega) only [go_sem, Nat.reduceEqDiff, Nat.reduceBEq, ↓reduceIte, reduceCtorEq, natI]
                refine x_callP hone ci_natOf (by simp [evA, upd_app, ofVal, ofCell]) (by simp [AV.pure, AV.pureL]) (by simp) ?_
                refine x_callP hcg ci_cmp (by simp [evA, upd_app, natI]) (by simp [AV.pureL]) rfl ?_
                simp (disch := omega) only [go_sem, Nat.reduceEqDiff, Nat.reduceBEq, ↓reduceIte, reduceCtorEq, e0, natI]
                rw [← hQ]
                refine hgood _ (_, v, u) ?_ ?_ ?_ ?_ hpq
                · exact (by simp [upd_app] <;> omega)
                · simp [upd_app]
                · simp only [upd_app, ↓reduceIte, ratI, natI]
                · exact (by simp [upd_app] <;> omega)
              · have hcn : cmpI g 1 ≠ 0 := by
                  rcases Nat.lt_trichotomy g 1 with h | h | h
                  · rw [cmpI_lt h]; decide
                  · exact absurd h hg1
                  · rw [cmpI_gt h]; decide
                rw [if_neg (fun h => hg1 h.2)] at hpq
                (refine callOk_of_wpc (W := fun _ => false) false hm' Tryz.func48 rfl (by kernel_rfl) (Nat.le_of_ble_eq_true rfl) (go_start ?_); generalize hQ : Post Tryz.prog Tryz.f48 _ _ _ _ _ = Q; simp only [stIn, matL, matA, st00])
                simp (disch := omega) only [go_sem, Nat.reduceEqDiff, Nat.reduceBEq, ↓reduceIte, reduceCtorEq, zrI, e0]
                refine x_callP (hCut') c_Cut (by simp [evA, upd_app, ofVal, ofCell]) (by simp [AV.pure, AV.pureL]) (by simp [AV.pure, AV.pureL]) ?_
                simp (disch := omega) only [go_sem, Nat.reduceEqDiff, Nat.reduceBEq, ↓reduceIte, reduceCtorEq, natI]
                refine x_callP (hPre) c_CutPrefix (by simp [evA, upd_app, ofVal, ofCell]) (by simp [AV.pure, AV.pureL]) (by simp [AV.pure, AV.pureL]) ?_
                simp (disch := omega) only [go_sem, Nat.reduceEqDiff, Nat.reduceBEq, ↓reduceIte, reduceCtorEq, natI]
                refine x_callP (hN1) ci_readNat (by simp [evA, upd_app, ofVal, ofCell]) (by simp [AV.pure, AV.pureL]) (by simp [AV.pure, AV.pureL]) ?_
                simp (disch := omega) only [go_sem, Nat.reduceEqDiff, Nat.reduceBEq, ↓reduceIte, reduceCtorEq, natI]
                refine x_callP hone ci_natOf (by simp [evA, upd_app, ofVal, ofCell]) (by simp [AV.pure, AV.pureL]) (by simp) ?_
                simp (disch := omega) only [go_sem, Nat.reduceEqDiff, Nat.reduceBEq, ↓reduceIte, reduceCtorEq, e0, natI]
                refine x_callP (hN2) ci_readNat (by simp [evA, upd_app, ofVal, ofCell]) (by simp [AV.pure, AV.pureL]) (by simp [AV.pure, AV.pureL]) ?_
                simp (disch := omega) only [go_sem, Nat.reduceEqDiff, Nat.reduceBEq, ↓reduceIte, reduceCtorEq, natI]
                refine x_callP hone ci_natOf (by simp [evA, upd_app, ofVal, ofCell]) (by simp [AV.pure, AV.pureL]) (by simp) ?_
                simp (disch := omega) only [go_sem, Nat.reduceEqDiff, Nat.reduceBEq, ↓reduceIte, reduceCtorEq, natI]
                refine x_callP hcmp ci_cmp (by simp [evA, upd_app, natI]) (by simp [AV.pureL]) rfl ?_
                simp (disch := omega) only [go_sem, Nat.reduceEqDiff, Nat.reduceBEq, ↓reduceIte, reduceCtorEq, natI]
                refine x_callP hgcd ci_gcd (by simp [evA, upd_app, natI]) (by simp [AV.pureL]) (by simp) ?_
                simp (disch := omega) only [go_sem, Nat.reduceEqDiff, Nat.reduceBEq, ↓reduceIte, reduceCtorEq, natI]
                refine x_callP hone ci_natOf (by simp [evA, upd_app, ofVal, ofCell]) (by simp [AV.pure, AV.pureL]) (by simp) ?_
                refine x_callP hcg ci_cmp (by simp [evA, upd_app, natI]) (by simp [AV.pureL]) rfl ?_
                simp (disch := omega) only [go_sem, Nat.reduceEqDiff, Nat.reduceBEq, ↓reduceIte, reduceCtorEq, e0, natI]
                rw [← hQ]
                exact hfail _ (by simp [upd_app] <;> omega) (by simp [upd_app]) (by simp [upd_app, zrI]) (by simp [upd_app] <;> omega) hpq
            · have hc1 : cmpI u 1 ≤ 0 := by
                rcases Nat.lt_or_ge u 1 with h | h
                · rw [cmpI_lt h]; decide
                · rw [show u = 1 by omega, cmpI_eq]; decide
              rw [if_neg (fun h => hu1 h.1)] at hpq
              (refine callOk_of_wpc (W := fun _ => false) false hm' Tryz.func48 rfl (by kernel_rfl) (Nat.le_of_ble_eq_true rfl) (go_start ?_); generalize hQ : Post Tryz.prog Tryz.f48 _ _ _ _ _ = Q; simp only [stIn, matL, matA, st00])
              simp (disch := omega) only [go_sem, Nat.reduceEqDiff, Nat.reduceBEq, ↓reduceIte, reduceCtorEq, zrI, e0]
              refine x_callP (hCut') c_Cut (by simp [evA, upd_app, ofVal, ofCell]) (by simp [AV.pure, AV.pureL]) (by simp [AV.pure, AV.pureL]) ?_
              simp (disch := omega) only [go_sem, Nat.reduceEqDiff, Nat.reduceBEq, ↓reduceIte, reduceCtorEq, natI]
              refine x_callP (hPre) c_CutPrefix (by simp [evA, upd_app, ofVal, ofCell]) (by simp [AV.pure, AV.pureL]) (by simp [AV.pure, AV.pureL]) ?_
              simp (disch := omega) only [go_sem, Nat.reduceEqDiff, Nat.reduceBEq, ↓reduceIte, reduceCtorEq, natI]
              refine x_callP (hN1) ci_readNat (by simp [evA, upd_app, ofVal, ofCell]) (by simp [AV.pure, AV.pureL]) (by simp [AV.pure, AV.pureL]) ?_
              simp (disch := omega) only [go_sem, Nat.reduceEqDiff, Nat.reduceBEq, ↓reduceIte, reduceCtorEq, natI]
              refine x_callP hone ci_natOf (by simp [evA, upd_app, ofVal, ofCell]) (by simp [AV.pure, AV.pureL]) (by simp) ?_
              simp (disch := omega) only [go_sem, Nat.reduceEqDiff, Nat.reduceBEq, ↓reduceIte, reduceCtorEq, e0, natI]
              refine x_callP (hN2) ci_readNat (by simp [evA, upd_app, ofVal, ofCell]) (by simp [AV.pure, AV.pureL]) (by simp [AV.pure, AV.pureL]) ?_
              simp (disch := omega) only [go_sem, Nat.reduceEqDiff, Nat.reduceBEq, ↓reduceIte, reduceCtorEq, natI]
              refine x_callP hone ci_natOf (by simp [evA, upd_app, ofVal, ofCell]) (by simp [AV.pure, AV.pureL]) (by simp) ?_
              simp (disch := omega) only [go_sem, Nat.reduceEqDiff, Nat.reduceBEq, ↓reduceIte, reduceCtorEq, natI]
              refine x_callP hcmp ci_cmp (by simp [evA, upd_app, natI]) (by simp [AV.pureL]) rfl ?_
              simp (disch := omega) only [go_sem, Nat.reduceEqDiff, Nat.reduceBEq, ↓reduceIte, reduceCtorEq, e0, natI]
              rw [← hQ]
              exact hfail _ (by simp [upd_app] <;> omega) (by simp [upd_app]) (by simp [upd_app, zrI]) (by simp [upd_app] <;> omega) hpq
@[simp] theorem zeroI_pure : zrI.pure = true := rfl
theorem ci_rats : callable Tryz.prog 25 = true := by kernel_rfl
def strA (xs : List (List UInt8)) : List AV := xs.map .str
theorem strA_length (xs : List (List UInt8)) : (strA xs).length = xs.length := by simp [strA]
theorem strA_at {xs : List (List UInt8)} {i : Nat} : (strA xs)[i]? = (xs[i]?).map AV.str := by simp [strA]
@[simp] theorem strA_pure (xs : List (List UInt8)) : AV.pureL (strA xs) = true := by induction xs <;> simp_all [strA, AV.pureL, AV.pure]
abbrev Qd := Bool × Nat × Nat
def listQ (xs : List (List UInt8)) : Option (List Qd) := if 300 < xs.length then none else xs.mapM parseQ
def ratsI (qs : List Qd) : AV := .sl 70 (qs.map ratI) [] false
def listI (o : Option (List Qd)) : AV := match o with | some qs => .tup [ratsI qs, .bool true] | none => .tup [.nil, .bool false]
theorem rats_pure (qs : List Qd) : AV.pureL (qs.map ratI) = true := by induction qs <;> simp_all [AV.pureL]
theorem mapM_take {α β : Type} {f : α → Option β} {xs : List α} {i : Nat} {x : α} {y : β} {ys : List β} (h : (xs.take i).mapM f = some ys) (hx : xs[i]? = some x) (hy : f x = some y) : (xs.take (i + 1)).mapM f = some (ys ++ [y]) := by
 rw [List.take_add_one, hx, List.mapM_append, h]; simp [hy]
theorem mapM_fail {α β : Type} {f : α → Option β} {xs : List α} {i : Nat} {x : α} (hx : xs[i]? = some x) (hy : f x = none) : xs.mapM f = none := by
 have : xs = xs.take i ++ x :: xs.drop (i + 1) := by rw [← drop_cons hx, List.take_append_drop]
 rw [this, List.mapM_append]
 cases (xs.take i).mapM f <;> simp [hy]
theorem mapM_len {α β : Type} {f : α → Option β} : ∀ {xs : List α} {ys : List β}, xs.mapM f = some ys → ys.length = xs.length
 | [], ys, h => by simp at h; subst h; rfl
 | x :: xs, ys, h => by
  simp only [List.mapM_cons] at h
  cases hx : f x with
  | none => simp [hx] at h
  | some y =>
   cases hxs : xs.mapM f with
   | none => simp [hx, hxs] at h
   | some zs => simp [hx, hxs] at h; subst h; simp [mapM_len hxs]
theorem i_rats (xs : List (List UInt8)) (hl : xs.length < 9223372036854775808) (hs : ∀ x ∈ xs, x.length < 9223372036854775808) : CallOk Tryz.prog 25 [.sl 9 (strA xs) [] false] (listI (listQ xs)) [] := by
  by_cases h300 : 300 < xs.length
  · rw [listQ, if_pos h300]
    (refine callOk_of_wpc (W := fun _ => false) false hm' Tryz.func25 rfl (by kernel_rfl) (Nat.le_of_ble_eq_true rfl) (go_start ?_); generalize hQ : Post Tryz.prog Tryz.f25 _ _ _ _ _ = Q; simp only [stIn, matL, matA, st00])
    simp (disch := omega) only [go_sem, Nat.reduceEqDiff, Nat.reduceBEq, ↓reduceIte, reduceCtorEq, strA_length]
    rw [← hQ]
    exact post_two (.inl rfl) rfl (by simp [upd_app] <;> omega) (by simp [upd_app] <;> omega) rfl rfl
  rw [listQ, if_neg h300]
  obtain ⟨n, hn⟩ : ∃ n, xs.length = n := ⟨_, rfl⟩
  rw [hn] at h300 hl
  (refine callOk_of_wpc (W := fun _ => false) false hm' Tryz.func25 rfl (by kernel_rfl) (Nat.le_of_ble_eq_true rfl) (go_start ?_); generalize hQ : Post Tryz.prog Tryz.f25 _ _ _ _ _ = Q; simp only [stIn, matL, matA, st00])
  simp (disch := omega) only [go_sem, Nat.reduceEqDiff, Nat.reduceBEq, ↓reduceIte, reduceCtorEq, strA_length, hn]
  obtain ⟨R, hR⟩ : ∃ R : Nat × List Qd → St → Prop, R = fun p st => st.fr 4 = .ref 0 p.2.length 0 p.2.length ∧ st.fr 13 = .sl 9 (strA xs) [] false ∧ st.fr 14 = .int .i64 n ∧ st.fr 15 = .int .i64 p.1 ∧ (∃ ex, st.h 0 = ⟨70, p.2.map ratI, ex, true, true⟩) ∧ 0 < st.nx ∧ p.1 ≤ n ∧ (xs.take p.1).mapM parseQ = some p.2 := ⟨_, rfl⟩
  refine k_loop R (fun p => n - p.1) (0, []) (by rw [hR]; exact ⟨(by simp [upd_app] <;> omega), (by simp [upd_app] <;> omega), (by simp [upd_app] <;> omega), (by simp [upd_app] <;> omega), ⟨true, by simp [upd_app]⟩, by simp, by simp, by simp⟩) ?_
  rintro ⟨i, qs⟩ ⟨fr, h, nx⟩ hst J hJ
  rw [hR] at hst
  obtain ⟨g4, g13, g14, g15, ⟨ex, hm⟩, hnx, hi, hq⟩ := hst
  simp only at g4 g13 g14 g15 hm hnx hi hq
  have hql : qs.length = i := by have := mapM_len hq; simp at this; omega
  have n1 : (0 = nx) = False := by simp; omega
  have n2 : (nx = 0) = False := by simp; omega
  have hml : (qs.map ratI).length = i := by simp [hql]
  by_cases hin : i < n
  · obtain ⟨x, hx⟩ := get_some (xs := xs) (i := i) (by omega)
    have hrd := i_readRat x (hs x (List.mem_of_getElem? hx))
    cases hp : parseQ x with
    | none =>
      rw [mapM_fail hx hp] at hQ
      simp only [readRatV, hp] at hrd
      simp (disch := omega) only [go_sem, Nat.reduceEqDiff, Nat.reduceBEq, ↓reduceIte, reduceCtorEq, g4, g13, g14, g15, strA_at, hx, strA_length, hn]
      refine x_callP (hrd) ci_readRat (by simp [evA, upd_app, ofVal, ofCell, zrI]) (by simp [AV.pure, AV.pureL]) (by simp [AV.pure, AV.pureL]) ?_
      simp (disch := omega) only [go_sem, Nat.reduceEqDiff, Nat.reduceBEq, ↓reduceIte, reduceCtorEq, g4, g13, g14, g15, zrI, el_iRat0, List.length_cons, List.length_nil, Nat.reduceAdd]
      rw [← hQ]
      exact post_two (.inl rfl) rfl (by simp [upd_app] <;> omega) (by simp [upd_app] <;> omega) rfl rfl
    | some q =>
      simp only [readRatV, hp] at hrd
      have hmt := mapM_take hq hx hp
      have hfin : ∀ st : St, st.fr 4 = .ref 0 (i + 1) 0 (i + 1) → st.fr 13 = .sl 9 (strA xs) [] false → st.fr 14 = .int .i64 n → st.fr 15 = .int .i64 ((i + 1 : Nat) : Int) → (∃ ex, st.h 0 = ⟨70, qs.map ratI ++ [ratI q], ex, true, true⟩) → 0 < st.nx → J st := by
        intro st r4 r13 r14 r15 rh rn
        refine hJ (i + 1, qs ++ [q]) st ?_ (by simp only; omega)
        rw [hR]
        refine ⟨by simpa [hql] using r4, r13, r14, r15, by simpa using rh, rn, hin, hmt⟩
      clear hJ hmt hR hQ hq hs
      rw [hql] at g4
      simp (disch := omega) only [go_sem, Nat.reduceEqDiff, Nat.reduceBEq, ↓reduceIte, reduceCtorEq, g4, g13, g14, g15, strA_at, hx, strA_length, hn]
      refine x_callP (hrd) ci_readRat (by simp [evA, upd_app, ofVal, ofCell, zrI]) (by simp [AV.pure, AV.pureL]) (by simp [AV.pure, AV.pureL]) ?_
      simp (disch := omega) only [go_sem, Nat.reduceEqDiff, Nat.reduceBEq, ↓reduceIte, reduceCtorEq, g4, g13, g14, g15, ratI, natI, List.length_cons, List.length_nil, Nat.reduceAdd, List.take_succ_cons, List.take_zero, n1, n2, hm, hml, reach]
      exact hfin _ (by simp [upd_app] <;> omega) (by simp [upd_app, g13] <;> omega) (by simp [upd_app, g14] <;> omega) (by simp [upd_app] <;> omega) ⟨false, by simp [upd_app, n1, n2, hm, ratI, natI]⟩ (by simp)
  · obtain rfl : i = n := by omega
    rw [List.take_of_length_le (by omega)] at hq
    rw [hq] at hQ
    simp (disch := omega) only [go_sem, Nat.reduceEqDiff, Nat.reduceBEq, ↓reduceIte, reduceCtorEq, g4, g13, g14, g15]
    rw [← hQ]
    have hfz : snapA (⟨_, h, nx⟩ : St) 7 (.ref 0 qs.length 0 qs.length) = some (.sl 70 (qs.map ratI) [] false, [0]) := snap_frozen (st := ⟨fr, h, nx⟩) (d := 6) (by simp [hm]) (by simp [hm]) (by simp [hm]) (by simp) (by simp [hm]; exact List.take_of_length_le (by simp)) (rats_pure qs)
    exact post_tup (.inl rfl) rfl (by simp [upd_app] <;> omega) (by simp [upd_app] <;> omega) hfz (snapA_pure rfl) (fun a _ => Nat.zero_le _) (.inl rfl)
theorem c_Gcd : callable Tryz.prog 62 = true := by kernel_rfl
theorem c_NatRead : callable Tryz.prog 61 = true := by kernel_rfl
theorem c_Digits : callable Tryz.prog 60 = true := by kernel_rfl
theorem c_sCut01 : callable Tryz.prog 59 = true := by kernel_rfl
theorem s_Gcd (a b : Nat) (ha : (enc B9 a).length ≤ 1099511627775) (hb : (enc B9 b).length ≤ 1099511627775) : CallOk Tryz.prog 62 [natS a, natS b] (natS (Nat.gcd a b)) [] := by
  (refine callOk_of_wpc (W := fun _ => false) false hm' Tryz.func62 rfl (by kernel_rfl) (Nat.le_of_ble_eq_true rfl) (go_start ?_); generalize hQ : Post Tryz.prog Tryz.f62 _ _ _ _ _ = Q; simp only [stIn, matL, matA, st00, natS])
  simp (disch := omega) only [go_sem, Nat.reduceEqDiff, Nat.reduceBEq, ↓reduceIte, reduceCtorEq]
  refine k_loop (fun (p : Nat × Nat) st => st.fr 0 = natS p.1 ∧ st.fr 1 = natS p.2 ∧ Nat.gcd p.1 p.2 = Nat.gcd a b ∧ (enc B9 p.1).length ≤ 1099511627775 ∧ (enc B9 p.2).length ≤ 1099511627775) (fun p => p.2) (a, b)
    ⟨(by simp [upd_app, natS] <;> omega), (by simp [upd_app, natS] <;> omega), rfl, ha, hb⟩ ?_
  rintro ⟨x, y⟩ ⟨fr, h, nx⟩ ⟨h0, h1, hg, hx, hy⟩ J hJ
  simp only [natS] at h0 h1 hg hx hy
  by_cases hy0 : y = 0
  · subst hy0
    rw [Nat.gcd_zero_right] at hg
    rw [enc_zero] at h1
    simp (disch := omega) only [go_sem, Nat.reduceEqDiff, Nat.reduceBEq, ↓reduceIte, reduceCtorEq, h0, h1, List.length_nil]
    rw [← hQ]
    exact post_one (.inl rfl) rfl (by simp [upd_app, h0, natS, hg] <;> omega) (by simp)
  · have hyl := enc_len_pos B9_gt hy0
    have hK : (enc B9 (x % y)).length ≤ 1099511627775 := Nat.le_trans (enc_len_mono B9_gt (Nat.le_of_lt (Nat.mod_lt _ (by omega)))) hy
    simp (disch := omega) only [go_sem, Nat.reduceEqDiff, Nat.reduceBEq, ↓reduceIte, reduceCtorEq, h0, h1]
    refine x_callP (s_NatDiv x y hx hy0 hy) c_NatDiv (by simp [evA, upd_app, ofVal, ofCell, natS, h0, h1]) (by simp [AV.pure, AV.pureL]) (by simp [AV.pure, AV.pureL]) ?_
    simp (disch := omega) only [go_sem, Nat.reduceEqDiff, Nat.reduceBEq, ↓reduceIte, reduceCtorEq, h0, h1]
    exact hJ (y, x % y) _ ⟨(by simp [upd_app, natS] <;> omega), (by simp [upd_app] <;> omega), by rw [← hg]; exact gcd_step x y, hy, hK⟩ (Nat.mod_lt _ (by omega))
theorem dval_group {s : List UInt8} {to frm : Nat} (hft : frm ≤ to) (ht : to ≤ s.length) : dval (s.drop frm) = dval ((s.take to).drop frm) * 10 ^ (s.length - to) + dval (s.drop to) := by
 have : s.drop frm = (s.take to).drop frm ++ s.drop to := by
  conv => lhs; rw [← List.take_append_drop to s, List.drop_append]
  congr 1
  rw [List.length_take, Nat.min_eq_left ht, show frm - to = 0 by omega, List.drop_zero]
 rw [this, dval_append]; simp
theorem pow9 (k : Nat) : B9 ^ k = 10 ^ (9 * k) := by rw [Nat.pow_mul]; rfl
theorem snapL_oneX {st : St} {id n len T : Nat} {k : IntKind} {xs : List Nat} {ex : Bool} (h : st.h id = ⟨T, natA k xs, ex, true, true⟩) (hn : xs.length = n) (hl : len ≤ n) :
  snapL (snapA st 8) [.ref id n 0 len] = some ([.sl T (natA k (xs.take len)) [] false], [id]) := by
 have := snap_frozen (st := st) (d := 7) (id := id) (n := n) (off := 0) (len := len) (T := T) (r := natA k (xs.take len)) (by rw [h]) (by rw [h, natA_length, hn]) (by rw [h]) (by omega) (by rw [h, List.drop_zero, natA_take]) (natA_pure _ _)
 simp [snapL, this]
theorem s_NatRead (s : List UInt8) (h : ∀ c ∈ s, isDig c = true) (hl : s.length ≤ 1000000) : CallOk Tryz.prog 61 [.str s] (natS (dval s)) [] := by
  (refine callOk_of_wpc (W := fun g => g == 63) false hm' Tryz.func61 rfl (by kernel_rfl) (Nat.le_of_ble_eq_true rfl) (go_start ?_); generalize hQ : Post Tryz.prog Tryz.f61 _ _ _ _ _ = Q; simp only [stIn, matL, matA, st00])
  have hB : B9 = 1000000000 := rfl
  simp (disch := omega) only [go_sem, Nat.reduceEqDiff, Nat.reduceBEq, ↓reduceIte, reduceCtorEq]
  obtain ⟨R, hR⟩ : ∃ R : Int × List Nat → St → Prop, R = fun p st => st.fr 0 = .str s ∧ st.fr 3 = .ref 0 p.2.length 0 p.2.length ∧ st.fr 4 = .int .i64 p.1 ∧ (∃ ex, st.h 0 = ⟨2, natA .i64 p.2, ex, true, true⟩) ∧ p.1 ≤ (s.length : Int) ∧ -9 ≤ p.1 ∧ (∀ q ∈ p.2, q < B9) ∧
      val B9 p.2 = dval (s.drop p.1.toNat) ∧ (0 < p.1 → s.length - p.1.toNat = 9 * p.2.length) ∧ p.2.length ≤ s.length := ⟨_, rfl⟩
  refine k_loop R (fun p => p.1.toNat) (s.length, []) (by rw [hR]; exact ⟨(by simp [upd_app] <;> omega), (by simp [upd_app] <;> omega), (by simp [upd_app] <;> omega), ⟨true, by simp [upd_app, natA]⟩, by simp, by simp only; omega, by simp, by simp [val, dval], by simp, by simp⟩) ?_
  rintro ⟨to, ds⟩ ⟨fr, hh, nx⟩ hst J hJ
  rw [hR] at hst
  obtain ⟨g0, g3, g4, ⟨ex, hm⟩, ht1, ht2, hq, hv, h9, hdl⟩ := hst
  simp only at g0 g3 g4 hm ht1 ht2 hq hv h9 hdl
  by_cases hpos : 0 < to
  · obtain ⟨t, rfl⟩ : ∃ t : Nat, to = t := ⟨to.toNat, by omega⟩
    rw [Int.toNat_natCast] at hv h9
    have ht : 0 < t := by omega
    have htl : t ≤ s.length := by omega
    have h9' := h9 hpos
    obtain ⟨f, hf, hf1, hf2⟩ : ∃ f : Nat, (if 9 < t then t - 9 else 0) = f ∧ f < t ∧ t - f ≤ 9 := ⟨_, rfl, by split <;> omega, by split <;> omega⟩
    have hchunk : ((s.take t).drop f).length = t - f := by simp; omega
    have hcd : ∀ c ∈ (s.take t).drop f, isDig c = true := fun c hc => h c (List.mem_of_mem_take (List.mem_of_mem_drop hc))
    obtain ⟨v, hvv⟩ : ∃ v, dval ((s.take t).drop f) = v := ⟨_, rfl⟩
    have hvB : v < 1000000000 := by
      have := dval_lt hcd; rw [hchunk, hvv] at this
      exact Nat.lt_of_lt_of_le this (Nat.le_trans (Nat.pow_le_pow_right (by omega) hf2) (by decide))
    have hgrp := dval_group (s := s) (Nat.le_of_lt hf1) htl
    rw [hvv] at hgrp
    have hfin : ∀ st : St, st.fr 0 = .str s → st.fr 3 = .ref 0 (ds.length + 1) 0 (ds.length + 1) → st.fr 4 = .int .i64 ((t : Int) - 9) → (∃ ex, st.h 0 = ⟨2, natA .i64 (ds ++ [v]), ex, true, true⟩) → J st := by
      intro st r0 r3 r4 rh
      refine hJ ((t : Int) - 9, ds ++ [v]) st ?_ (by simp only; omega)
      rw [hR]
      refine ⟨r0, by simpa using r3, r4, rh, by simp only; omega, by simp only; omega, ?_, ?_, ?_, by simp; omega⟩
      · intro q hq'; rcases List.mem_append.1 hq' with h' | h'
        · exact hq q h'
        · simp at h'; rw [h', hB]; exact hvB
      · have e : ((t : Int) - 9).toNat = f := by split at hf <;> omega
        simp only
        rw [e, hgrp, val_append, hv, pow9, ← h9']; simp only [val, Nat.mul_zero, Nat.add_zero]
        rw [Nat.mul_comm, Nat.add_comm]
      · intro h'; simp only at h' ⊢
        simp only [List.length_append, List.length_cons, List.length_nil]; omega
    clear hJ hR hQ hv h9 hq
    simp (disch := omega) only [go_sem, ↓k_blockStop, Nat.reduceEqDiff, Nat.reduceBEq, ↓reduceIte, reduceCtorEq, g0, g3, g4]; try unfold goB
    rw [k_block]
    obtain ⟨F, hF⟩ : ∃ F : St → Prop, F = fun st => st.fr 0 = .str s ∧ st.fr 3 = .ref 0 ds.length 0 ds.length ∧ st.fr 4 = .int .i64 t ∧ st.fr 5 = .int .i64 f ∧ st.h = hh := ⟨_, rfl⟩
    simp (disch := omega) only [go_sem, ↓k_condStop, Nat.reduceEqDiff, Nat.reduceBEq, ↓reduceIte, reduceCtorEq, g0, g3, g4]; try unfold goS
    refine k_join F ?_ ?_
    · by_cases h9t : 9 < t
      · rw [if_pos h9t] at hf
        have e : (t : Int) - 9 = (f : Int) := by omega
        simp (disch := omega) only [go_sem, Nat.reduceEqDiff, Nat.reduceBEq, ↓reduceIte, reduceCtorEq, g0, g3, g4, e]
        rw [hF]; exact ⟨(by simp [upd_app, g0] <;> omega), (by simp [upd_app, g3] <;> omega), (by simp [upd_app, g4] <;> omega), (by simp [upd_app] <;> omega), rfl⟩
      · rw [if_neg h9t] at hf
        subst hf
        simp (disch := omega) only [go_sem, Nat.reduceEqDiff, Nat.reduceBEq, ↓reduceIte, reduceCtorEq, g0, g3, g4]
        rw [hF]; exact ⟨(by simp [upd_app, g0] <;> omega), (by simp [upd_app, g3] <;> omega), (by simp [upd_app, g4] <;> omega), (by simp [upd_app] <;> omega), rfl⟩
    clear hf
    rintro ⟨fr, h1, nx1⟩ hst
    rw [hF] at hst
    obtain ⟨g0, g3, g4, g5, e1⟩ := hst
    simp only at g0 g3 g4 g5 e1
    subst e1
    simp (disch := omega) only [go_sem, Nat.reduceEqDiff, Nat.reduceBEq, ↓reduceIte, reduceCtorEq, g0, g3, g4, g5]
    refine k_loop (fun (i : Nat) st => st.fr 0 = .str s ∧ st.fr 3 = .ref 0 ds.length 0 ds.length ∧ st.fr 4 = .int .i64 t ∧ st.fr 6 = .int .i64 (dval ((s.take (f + i)).drop f)) ∧ st.fr 7 = .int .i64 ((f + i : Nat) : Int) ∧ st.h = h1 ∧ f + i ≤ t) (fun i => t - (f + i)) 0
      ⟨(by simp [upd_app, g0] <;> omega), (by simp [upd_app, g3] <;> omega), (by simp [upd_app, g4] <;> omega), by simp [upd_app, List.drop_take, dval], (by simp [upd_app, g5] <;> omega), rfl, by omega⟩ ?_
    rintro i ⟨fr, h2, nx2⟩ ⟨g0, g3, g4, g6, g7, e1, hi⟩ J2 hJ2
    simp only at g0 g3 g4 g6 g7 e1
    subst e1
    by_cases hin : f + i < t
    · obtain ⟨c, hc⟩ := get_some (xs := s) (i := f + i) (by omega)
      have hcd1 := h c (List.mem_of_getElem? hc)
      have hc48 : 48 ≤ c.toNat ∧ c.toNat ≤ 57 := by simpa [isDig] using hcd1
      have hstep : (s.take (f + (i + 1))).drop f = (s.take (f + i)).drop f ++ [c] := by
        rw [← Nat.add_assoc, List.take_add_one, hc, List.drop_append]
        congr 1
        rw [List.length_take, Nat.min_eq_left (by omega), show f - (f + i) = 0 by omega]; rfl
      have hsd := dval_snoc ((s.take (f + i)).drop f) c
      rw [← hstep] at hsd
      have hlt : dval ((s.take (f + i)).drop f) < 1000000000 := by
        have := dval_lt (s := (s.take (f + i)).drop f) (fun c hc => h c (List.mem_of_mem_take (List.mem_of_mem_drop hc)))
        rw [show ((s.take (f + i)).drop f).length = i by simp; omega] at this
        exact Nat.lt_of_lt_of_le this (Nat.le_trans (Nat.pow_le_pow_right (by omega) (show i ≤ 9 by omega)) (by decide))
      generalize dval ((s.take (f + i)).drop f) = w at *
      have hsub : (c.toNat : Int) - 48 = ((c.toNat - 48 : Nat) : Int) := by omega
      have hdd : (c.toNat - 48) ≤ 9 := by omega
      simp (disch := omega) only [go_sem, Nat.reduceEqDiff, Nat.reduceBEq, ↓reduceIte, reduceCtorEq, g0, g3, g4, g6, g7, hc, hsub]
      exact hJ2 (i + 1) _ ⟨(by simp [upd_app, g0] <;> omega), (by simp [upd_app, g3] <;> omega), (by simp [upd_app, g4] <;> omega), by rw [hsd]; exact (by simp [upd_app] <;> omega), (by simp [upd_app] <;> omega), rfl, by omega⟩ (by omega)
    · have hfi : f + i = t := by omega
      rw [hfi, hvv] at g6
      have hml : (natA .i64 ds).length = ds.length := natA_length ..
      simp (disch := omega) only [go_sem, Nat.reduceEqDiff, Nat.reduceBEq, ↓reduceIte, reduceCtorEq, g0, g3, g4, g6, g7, hfi, hm, reach]
      exact hfin _ (by simp [upd_app, g0] <;> omega) (by simp [upd_app] <;> omega) (by simp [upd_app] <;> omega) ⟨false, by simp [upd_app]⟩
  · have e0 : to.toNat = 0 := by omega
    rw [e0, List.drop_zero] at hv
    simp (disch := omega) only [go_sem, Nat.reduceEqDiff, Nat.reduceBEq, ↓reduceIte, reduceCtorEq, g0, g3, g4]
    have htr : trimZ (ds.take ds.length) = enc B9 (dval s) := by rw [List.take_length, trimZ_enc B9_gt hq, hv]
    refine x_callF (s_Trim hm' (ds.take ds.length) (by simp; omega)) c_Trim (by simp [evA, upd_app]) (snapL_oneX (id := 0) (st := ⟨_, _, _⟩) hm rfl (Nat.le_refl _)) (by simp [hm]) (by simp [AV.pure, AV.pureL]) (by simp [AV.pure, AV.pureL]) (by simp) ?_
    rw [htr]
    simp (disch := omega) only [go_sem, Nat.reduceEqDiff, Nat.reduceBEq, ↓reduceIte, reduceCtorEq]
    rw [← hQ]
    exact post_one (.inl rfl) rfl (by simp [upd_app, natS] <;> omega) (by simp)
theorem s_Digits (s : List UInt8) (hs : s.length < 9223372036854775808) : CallOk Tryz.prog 60 [.str s] (.bool (tokD s)) [] := by
  (refine callOk_of_wpc (W := fun _ => false) false hm' Tryz.func60 rfl (by kernel_rfl) (Nat.le_of_ble_eq_true rfl) (go_start ?_); generalize hQ : Post Tryz.prog Tryz.f60 _ _ _ _ _ = Q; simp only [stIn, matL, matA, st00])
  simp (disch := omega) only [go_sem, Nat.reduceEqDiff, Nat.reduceBEq, ↓reduceIte, reduceCtorEq]
  refine k_loop (fun (i : Nat) st => st.fr 0 = .str s ∧ st.fr 3 = .int .i64 i ∧ i ≤ s.length ∧ ∀ c ∈ s.take i, isDig c = true) (fun i => s.length - i) 0 ⟨(by simp [upd_app] <;> omega), (by simp [upd_app] <;> omega), by omega, by simp⟩ ?_
  rintro i ⟨fr, h, nx⟩ ⟨g0, g3, hi, hdg⟩ J hJ
  simp only at g0 g3
  by_cases hin : i < s.length
  · obtain ⟨c, hc⟩ := get_some (xs := s) (i := i) hin
    have hcb := c.toNat_lt
    cases hd : isDig c with
    | false =>
      have hnd : c.toNat < 48 ∨ 57 < c.toNat := by simp [isDig] at hd; omega
      have hb : tokD s = false := by simp [tokD]; intro _ _ _; exact ⟨c, List.mem_of_getElem? hc, hd⟩
      rw [hb] at hQ
      rcases hnd with hnd | hnd
      · simp (disch := omega) only [go_sem, Nat.reduceEqDiff, Nat.reduceBEq, ↓reduceIte, reduceCtorEq, g0, g3, hc]
        rw [← hQ]
        exact post_one (.inl rfl) rfl (by simp [upd_app] <;> omega) rfl
      · simp (disch := omega) only [go_sem, Nat.reduceEqDiff, Nat.reduceBEq, ↓reduceIte, reduceCtorEq, g0, g3, hc]
        rw [← hQ]
        exact post_one (.inl rfl) rfl (by simp [upd_app] <;> omega) rfl
    | true =>
      have hnd : 48 ≤ c.toNat ∧ c.toNat ≤ 57 := by simpa [isDig] using hd
      simp (disch := omega) only [go_sem, Nat.reduceEqDiff, Nat.reduceBEq, ↓reduceIte, reduceCtorEq, g0, g3, hc]
      refine hJ (i + 1) _ ⟨(by simp [upd_app, g0] <;> omega), (by simp [upd_app] <;> omega), hin, fun d hd' => ?_⟩ (by omega)
      rw [List.take_add_one, hc] at hd'
      rcases List.mem_append.1 hd' with h' | h'
      · exact hdg d h'
      · simp at h'; rw [h']; exact hd
  · rw [List.take_of_length_le (by omega)] at hdg
    clear hJ
    have hall : s.all isDig = true := by simpa using hdg
    by_cases h1 : s.length < 1
    · have hb : tokD s = false := by simp [tokD]; omega
      rw [hb] at hQ
      simp (disch := omega) only [go_sem, Nat.reduceEqDiff, Nat.reduceBEq, ↓reduceIte, reduceCtorEq, g0, g3]
      rw [← hQ]
      exact post_one (.inl rfl) rfl (by simp [upd_app] <;> omega) rfl
    by_cases h2 : 200 < s.length
    · have hb : tokD s = false := by simp [tokD]; omega
      rw [hb] at hQ
      simp (disch := omega) only [go_sem, Nat.reduceEqDiff, Nat.reduceBEq, ↓reduceIte, reduceCtorEq, g0, g3]
      rw [← hQ]
      exact post_one (.inl rfl) rfl (by simp [upd_app] <;> omega) rfl
    by_cases h3 : s.length = 1
    · have hb : tokD s = true := by simp [tokD, h3, hall]
      rw [hb] at hQ
      simp (disch := omega) only [go_sem, Nat.reduceEqDiff, Nat.reduceBEq, ↓reduceIte, reduceCtorEq, g0, g3]
      rw [← hQ]
      exact post_one (.inl rfl) rfl (by simp [upd_app] <;> omega) rfl
    obtain ⟨c0, hc0⟩ := get_some (xs := s) (i := 0) (by omega)
    have hc0' : s[Int.toNat 0]? = some c0 := hc0
    have hhead : s.head? = some c0 := by rw [List.head?_eq_getElem?]; exact hc0
    by_cases h4 : c0.toNat = 48
    · have hc48 : c0 = 48 := UInt8.toNat.inj (by rw [h4]; rfl)
      have hb : tokD s = false := by simp [tokD, hhead, hc48]; omega
      rw [hb] at hQ
      simp (disch := omega) only [go_sem, Nat.reduceEqDiff, Nat.reduceBEq, ↓reduceIte, reduceCtorEq, g0, g3, hc0', h4]
      rw [← hQ]
      exact post_one (.inl rfl) rfl (by simp [upd_app] <;> omega) rfl
    · have hne : c0 ≠ 48 := fun e => h4 (by rw [e]; rfl)
      have hb : tokD s = true := by
        have a1 : decide (1 ≤ s.length) = true := by simp; omega
        have a2 : decide (s.length ≤ 200) = true := by simp; omega
        have a3 : (!(s.head? == some 48)) = true := by rw [hhead]; simp [hne]
        simp only [tokD, a1, a2, a3, hall, Bool.or_true, Bool.and_self]
      rw [hb] at hQ
      simp (disch := omega) only [go_sem, Nat.reduceEqDiff, Nat.reduceBEq, ↓reduceIte, reduceCtorEq, g0, g3, hc0']
      rw [← hQ]
      exact post_one (.inl rfl) rfl (by simp [upd_app] <;> omega) rfl
def splitM (m : UInt8) : List UInt8 → List (List UInt8)
 | [] => [[]]
 | c :: cs => if c = m then [] :: splitM m cs else match splitM m cs with | p :: ps => (c :: p) :: ps | [] => [[c]]
theorem splitM_ne (m : UInt8) (s : List UInt8) : splitM m s ≠ [] := by
 cases s with
 | nil => simp [splitM]
 | cons c cs => simp only [splitM]; split; simp; split <;> simp
theorem splitM_seg {m : UInt8} : ∀ {a : List UInt8} {b : List UInt8}, m ∉ a → splitM m (a ++ m :: b) = a :: splitM m b
 | [], b, _ => by simp [splitM]
 | c :: cs, b, h => by
  simp only [List.mem_cons, not_or] at h
  simp only [List.cons_append, splitM, splitM_seg h.2]
  rw [if_neg (fun e => h.1 e.symm)]
theorem splitM_end {m : UInt8} : ∀ {a : List UInt8}, m ∉ a → splitM m a = [a]
 | [], _ => rfl
 | c :: cs, h => by
  simp only [List.mem_cons, not_or] at h
  simp only [splitM, splitM_end h.2]
  rw [if_neg (fun e => h.1 e.symm)]
theorem splitM_len (m : UInt8) : ∀ s : List UInt8, (splitM m s).length ≤ s.length + 1
  | [] => by simp [splitM]
  | c :: cs => by
    have := splitM_len m cs
    simp only [splitM]
    split
    · simp; omega
    · split
      · rename_i h; rw [h] at this; simp at this ⊢; omega
      · simp
theorem u8_eq {a b : UInt8} : ((a.toNat : Int) == (b.toNat : Int)) = (a == b) := by
 rw [Bool.eq_iff_iff]; simp only [beq_iff_eq]
 exact ⟨fun e => UInt8.toNat.inj (by omega), fun e => by rw [e]⟩
theorem strA_snoc {xs : List (List UInt8)} {x : List UInt8} : strA xs ++ [AV.str x] = strA (xs ++ [x]) := by simp [strA]
theorem s_Cut (s : List UInt8) (m : UInt8) (hs : s.length ≤ 1000000000) : CallOk Tryz.prog 59 [.str s, .int .u8 m.toNat] (.sl 9 (strA (splitM m s)) [] false) [] := by
  (refine callOk_of_wpc (W := fun _ => false) false hm' Tryz.func59 rfl (by kernel_rfl) (Nat.le_of_ble_eq_true rfl) (go_start ?_); generalize hQ : Post Tryz.prog Tryz.f59 _ _ _ _ _ = Q; simp only [stIn, matL, matA, st00])
  simp (disch := omega) only [go_sem, Nat.reduceEqDiff, Nat.reduceBEq, ↓reduceIte, reduceCtorEq]
  obtain ⟨R, hR⟩ : ∃ R : Nat × Nat × List (List UInt8) → St → Prop, R = fun p st => st.fr 0 = .str s ∧ st.fr 1 = .int .u8 m.toNat ∧ st.fr 5 = .ref 0 p.2.2.length 0 p.2.2.length ∧ st.fr 6 = .int .i64 p.2.1 ∧ st.fr 7 = .int .i64 p.1 ∧ (∃ ex, st.h 0 = ⟨9, strA p.2.2, ex, true, true⟩) ∧ p.2.2.length ≤ p.1 ∧
      ((p.2.1 ≤ p.1 ∧ p.1 ≤ s.length ∧ p.2.2 ++ splitM m (s.drop p.2.1) = splitM m s ∧ m ∉ (s.drop p.2.1).take (p.1 - p.2.1)) ∨ (p.1 = s.length + 1 ∧ p.2.2 = splitM m s)) := ⟨_, rfl⟩
  refine k_loop R (fun p => s.length + 1 - p.1) (0, 0, []) (by rw [hR]; exact ⟨(by simp [upd_app] <;> omega), (by simp [upd_app] <;> omega), (by simp [upd_app] <;> omega), (by simp [upd_app] <;> omega), (by simp [upd_app] <;> omega), ⟨true, by simp [upd_app, strA]⟩, by simp, .inl ⟨by simp, by simp, by simp, by simp⟩⟩) ?_
  rintro ⟨i, f, out⟩ ⟨fr, h, nx⟩ hst J hJ
  rw [hR] at hst
  obtain ⟨g0, g1, g5, g6, g7, ⟨ex, hm⟩, hol, hcase⟩ := hst
  simp only at g0 g1 g5 g6 g7 hm hol hcase
  rcases hcase with ⟨hf, hi, hsp, hnm⟩ | ⟨hi, hsp⟩
  · have hfin : ∀ (st : St) (f' : Nat) (out' : List (List UInt8)), st.fr 0 = .str s → st.fr 1 = .int .u8 m.toNat → st.fr 5 = .ref 0 out'.length 0 out'.length → st.fr 6 = .int .i64 f' → st.fr 7 = .int .i64 ((i + 1 : Nat) : Int) → (∃ ex, st.h 0 = ⟨9, strA out', ex, true, true⟩) → out'.length ≤ i + 1 →
        ((f' ≤ i + 1 ∧ i + 1 ≤ s.length ∧ out' ++ splitM m (s.drop f') = splitM m s ∧ m ∉ (s.drop f').take (i + 1 - f')) ∨ (i + 1 = s.length + 1 ∧ out' = splitM m s)) → J st := fun st f' out' r0 r1 r5 r6 r7 rh rl rc =>
      hJ (i + 1, f', out') st (by rw [hR]; exact ⟨r0, r1, r5, r6, r7, rh, rl, rc⟩) (by simp only; omega)
    clear hJ hR hQ
    have hml : (strA out).length = out.length := strA_length out
    by_cases hie : i = s.length
    · subst hie
      have hseg : (s.take s.length).drop f = s.drop f := by rw [List.take_length]
      rw [List.take_of_length_le (by simp)] at hnm
      simp (disch := omega) only [go_sem, Nat.reduceEqDiff, Nat.reduceBEq, ↓reduceIte, reduceCtorEq, g0, g1, g5, g6, g7, hm, hml, hseg, reach, List.length_cons, List.length_nil, strA_snoc]
      refine hfin _ (s.length + 1) (out ++ [s.drop f]) (by simp [upd_app, g0] <;> omega) (by simp [upd_app, g1] <;> omega) (by simp [upd_app]) (by simp [upd_app] <;> omega) (by simp [upd_app] <;> omega) ⟨false, by simp [upd_app]⟩ (by simp; omega) (.inr ⟨rfl, ?_⟩)
      rw [← hsp, splitM_end hnm]
    · obtain ⟨c, hc⟩ := get_some (xs := s) (i := i) (by omega)
      have hcm := u8_eq (a := c) (b := m)
      have hsegl : (s.drop f).take (i - f) = (s.take i).drop f := by rw [List.drop_take]
      by_cases hcmm : c = m
      · subst hcmm
        rw [beq_self_eq_true] at hcm
        have hpart : s.drop f = (s.take i).drop f ++ c :: s.drop (i + 1) := by
          rw [← hsegl, ← drop_cons hc]
          conv => lhs; rw [← List.take_append_drop (i - f) (s.drop f), List.drop_drop, show f + (i - f) = i by omega]
        simp (disch := omega) only [go_sem, Nat.reduceEqDiff, Nat.reduceBEq, ↓reduceIte, reduceCtorEq, g0, g1, g5, g6, g7, hc, hm, hml, reach, List.length_cons, List.length_nil, strA_snoc]
        refine hfin _ (i + 1) (out ++ [(s.take i).drop f]) (by simp [upd_app, g0] <;> omega) (by simp [upd_app, g1] <;> omega) (by simp [upd_app]) (by simp [upd_app] <;> omega) (by simp [upd_app] <;> omega) ⟨false, by simp [upd_app]⟩ (by simp; omega) (.inl ⟨by omega, by omega, ?_, by simp⟩)
        rw [← hsp, hpart, splitM_seg (by rw [← hsegl]; exact hnm)]; simp
      · have hne : (c == m) = false := by simpa using hcmm
        rw [hne] at hcm
        simp (disch := omega) only [go_sem, Nat.reduceEqDiff, Nat.reduceBEq, ↓reduceIte, reduceCtorEq, g0, g1, g5, g6, g7, hc, hcm]
        refine hfin _ f out (by simp [upd_app, g0] <;> omega) (by simp [upd_app, g1] <;> omega) (by simp [upd_app, g5] <;> omega) (by simp [upd_app, g6] <;> omega) (by simp [upd_app] <;> omega) ⟨ex, by simpa [upd_app] using hm⟩ (by omega) (.inl ⟨by omega, by omega, hsp, ?_⟩)
        rw [show i + 1 - f = (i - f) + 1 by omega, List.take_add_one, List.getElem?_drop, show f + (i - f) = i by omega, hc]
        simp only [List.mem_append, not_or]
        exact ⟨hnm, by simpa using fun e => hcmm e.symm⟩
  · subst hsp
    have hlen := splitM_len m s
    clear hJ hR
    simp (disch := omega) only [go_sem, Nat.reduceEqDiff, Nat.reduceBEq, ↓reduceIte, reduceCtorEq, g0, g1, g5, g6, g7, hi]
    rw [← hQ]
    have hfz := snap_frozen (st := ⟨fr, h, nx⟩) (d := 7) (id := 0) (n := (splitM m s).length) (off := 0) (len := (splitM m s).length) (T := 9) (r := strA (splitM m s)) (by simp [hm]) (by simp [hm, strA_length]) (by simp [hm]) (by simp) (by simp [hm]; exact List.take_of_length_le (by simp [strA_length])) (strA_pure _)
    exact post_frozen (id := 0) (n := (splitM m s).length) (off := 0) (len := (splitM m s).length) (.inl rfl) rfl (by simp [upd_app] <;> omega) (by simp [hm]) (by simp [hm, strA_length]) (by simp [hm]) (by simp) (Nat.zero_le _) (by simp [hm]; exact List.take_of_length_le (by simp [strA_length])) (strA_pure _)
end Go.Proofs.YtdljcbbodihagaaGreatDoor
