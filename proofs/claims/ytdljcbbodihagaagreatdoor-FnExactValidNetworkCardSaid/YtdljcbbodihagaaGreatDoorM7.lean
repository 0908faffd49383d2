/- Ground 7. -/
import Derived.Test.YtdljcbbodihagaaGreatDoorChecked
import Derived.Lib.Bytealg
import Derived.Tactics
import Derived.WalkKit
import Derived.Below
import Derived.Shelf.Pu.ParseUintPublic10
import Derived.Ground.MpProg
import Derived.Test.YtdljcbbodihagaaGreatDoorProg
import Derived.Lib.AtoiErrMem
import Derived.Lib.ParseIntB
import Derived.Test.YtdljcbbodihagaaGreatDoorM6

set_option linter.unusedVariables false
set_option linter.unusedSimpArgs false
set_option maxRecDepth 100000
namespace Go.Proofs.YtdljcbbodihagaaGreatDoor
open Go

theorem i_TrimIn {fr : Nat → AV} {h : Nat → Blk} {nx id n : Nat} {xs : List Nat} (hlv : (h id).lv = true) (hn : (h id).xs.length = n) (ht : (h id).t = 114) (hlen : n < 9223372036854775808)
    (hl : xs.length ≤ n) (hxs : (h id).xs.take xs.length = natA .u32 xs) : InOk Tryz.prog ⟨fr, h, nx⟩ 76 [.ref id n 0 xs.length] (.ref id n 0 (trimZ xs).length) ⟨fr, h, nx⟩ := by
  refine inOk_of_wpc (W := fun _ => false) hm' Tryz.func76 rfl (by kernel_rfl) (Nat.le_of_ble_eq_true rfl) (go_start ?_)
  generalize hQ : PostIn Tryz.prog Tryz.f76 _ _ _ = Q
  simp (disch := omega) only [go_sem, Nat.reduceEqDiff, Nat.reduceBEq, ↓reduceIte, reduceCtorEq, List.getD_cons_zero, List.getD_cons_succ]
  refine k_loop (fun (ys : List Nat) st => st.fr 0 = .ref id n 0 ys.length ∧ st.h = h ∧ st.nx = nx ∧ ys.length ≤ n ∧ (h id).xs.take ys.length = natA .u32 ys ∧ trimZ ys = trimZ xs) (fun ys => ys.length) xs ⟨rfl, rfl, rfl, hl, hxs, rfl⟩ ?_
  rintro ys ⟨fr, h1, nx1⟩ ⟨h0, e1, e2, h3, h4, h5⟩ J hJ
  simp only at h0 e1 e2
  subst e1 e2
  rcases List.eq_nil_or_concat ys with rfl | ⟨zs, z, rfl⟩
  · simp (disch := omega) only [go_sem, Nat.reduceEqDiff, Nat.reduceBEq, ↓reduceIte, reduceCtorEq, h0, hlv, hn]
    rw [← hQ]
    exact postIn_one (.inl rfl) rfl (by simp [upd_app, ← h5]; rfl) rfl rfl
  · rw [List.concat_eq_append] at *
    have hl : (zs ++ [z]).length = zs.length + 1 := by simp
    rw [hl] at h0 h3 h4
    have hg : (h1 id).xs[zs.length]? = some (.int .u32 z) := by
      have := congrArg (·[zs.length]?) h4
      simp only [List.getElem?_take] at this
      rw [if_pos (by omega)] at this
      rw [this]; exact natA_get (by simp)
    have h4' : (h1 id).xs.take zs.length = natA .u32 zs := by
      have := congrArg (List.take zs.length) h4
      rw [List.take_take, Nat.min_eq_left (by omega), natA_take] at this
      simpa using this
    by_cases hz : z = 0
    · simp (disch := omega) only [go_sem, Nat.reduceEqDiff, Nat.reduceBEq, ↓reduceIte, reduceCtorEq, h0, hg, hlv, hn, ht]
      refine hJ zs _ ⟨?_, rfl, rfl, by omega, h4', by rw [← h5, hz, trimZ_zero]⟩ (by simp)
      simp [upd_app]
    · simp (disch := omega) only [go_sem, Nat.reduceEqDiff, Nat.reduceBEq, ↓reduceIte, reduceCtorEq, h0, hg, hlv, hn, ht]
      rw [← hQ]
      exact postIn_one (.inl rfl) rfl (by simp [upd_app, ← h5, trimZ_pos _ hz]) rfl rfl
theorem ci_div : callable Tryz.prog 85 = true := by kernel_rfl
theorem shr_dig {X S T B : Nat} (hB : B = S * T) (hS : 0 < S) (hT : 0 < T) : X % (B * B) / S % B = X / S % B := by
 have h1 := Nat.div_add_mod X (B * B)
 have h2 : X / S = B * (T * (X / (B * B))) + X % (B * B) / S := by
  have e : X = S * (B * (T * (X / (B * B)))) + X % (B * B) := by
   have : S * (B * (T * (X / (B * B)))) = B * B * (X / (B * B)) := by
    rw [Nat.mul_left_comm S B, ← Nat.mul_assoc S T, ← hB, Nat.mul_assoc]
   omega
  conv => lhs; rw [e]
  rw [Nat.mul_add_div hS]
 rw [h2, Nat.mul_add_mod]
theorem two_digs {B : Nat} (hB : 1 < B) {xs : List Nat} (h : ∀ d ∈ xs, d < B) {i x : Nat} (hx : xs[i]? = some x) : xs.getD (i + 1) 0 * B + x = val B xs / B ^ i % (B * B) := by
  have h1 := dig_at hB h hx
  have h2 : xs.getD (i + 1) 0 = val B xs / B ^ i / B % B := by
    rw [Nat.div_div_eq_div_mul, ← Nat.pow_succ]
    by_cases hi : i + 1 < xs.length
    · exact dig_at hB h (getD_some hi)
    · rw [getD_none hi, Nat.div_eq_of_lt, Nat.zero_mod]
      exact Nat.lt_of_lt_of_le (val_lt h) (Nat.pow_le_pow_right (by omega) (by omega))
  rw [Nat.mod_mul, h2, h1, Nat.mul_comm B, Nat.add_comm]
theorem shr_at {B S T V i x L : Nat} (hB : 1 < B) (hST : B = S * T) (hS : 0 < S) (hT : 0 < T) (hL : V < B ^ L) (hx : (enc B V)[i]? = some x) (hi : i < L) : (padL B L (V / S))[i]? = some (((enc B V).getD (i + 1) 0 * B + x) / S % B) := by
 have hlt : V / S < B ^ L := Nat.lt_of_le_of_lt (Nat.div_le_self _ _) hL
 obtain ⟨y, hy⟩ := get_some (xs := padL B L (V / S)) (i := i) (by rw [pad_len hB hlt]; exact hi)
 rw [hy, dig_at hB (pad_lt hB) hy, pad_val hB, two_digs hB (enc_lt hB V) hx, val_enc hB, shr_dig hST hS hT, Nat.div_div_eq_div_mul, Nat.div_div_eq_div_mul, Nat.mul_comm S]
theorem take_drop_set {α : Type} {R T : List α} {i : Nat} {v : α} (hT : T[i]? = some v) (hl : i < R.length) : (T.take i ++ R.drop i).set i v = T.take (i + 1) ++ R.drop (i + 1) := by
 have hlt := (List.getElem?_eq_some_iff.1 hT).1
 have h1 : (T.take i).length = i := by simp; omega
 rw [List.set_append_right _ _ (by omega), h1, Nat.sub_self, List.drop_eq_getElem_cons hl, List.set_cons_zero, List.take_add_one, hT]
 simp
set_option maxHeartbeats 1000000 in
theorem i_div (a b : Nat) (ha : (enc B32 a).length ≤ 1099511627775) (hb0 : b ≠ 0) (hb : (enc B32 b).length ≤ 1099511627775) : CallOk Tryz.prog 85 [natI a, natI b] (.tup [natI (a / b), natI (a % b)]) [] := by
  by_cases hab : a < b
  · have e1 : a / b = 0 := Nat.div_eq_of_lt hab
    have e2 : a % b = a := Nat.mod_eq_of_lt hab
    rw [e1, e2]
    refine CallOk.res (r := .tup [.nil, natI a]) ?_ (sub_tup (SubL.cons (by unfold natI; rw [enc_zero]; exact sub_nil) (SubL.refl _)))
    (refine callOk_of_wpc (W := fun g => g == 76 || g == 97 || g == 98) false hm' Tryz.func85 rfl (by kernel_rfl) (Nat.le_of_ble_eq_true rfl) (go_start ?_); generalize hQ : Post Tryz.prog Tryz.f85 _ _ _ _ _ = Q; simp only [stIn, matL, matA, st00, natI])
    simp (disch := omega) only [go_sem, Nat.reduceEqDiff, Nat.reduceBEq, ↓reduceIte, reduceCtorEq]
    refine x_callP (i_Cmp a b (by omega) (by omega)) ci_cmp (by simp [evA, upd_app, ofVal, ofCell, natI]) (by simp [AV.pure, AV.pureL]) (by simp [AV.pure, AV.pureL]) ?_
    have hc := cmpI_lt hab
    simp (disch := omega) only [go_sem, Nat.reduceEqDiff, Nat.reduceBEq, ↓reduceIte, reduceCtorEq, hc]
    rw [← hQ]
    exact post_two (.inl rfl) rfl (by simp [upd_app] <;> omega) (by simp [upd_app, natI] <;> omega) rfl (by simp)
  by_cases hb1 : (enc B32 b).length = 1
  · obtain ⟨d, hd⟩ := get_some (xs := enc B32 b) (i := 0) (by omega)
    have hdB := enc_lt B32_gt b d (List.mem_of_getElem? hd)
    have hbd : b = d := by
      have h1 := drop_cons hd
      rw [List.drop_zero, List.drop_eq_nil_of_le (by omega)] at h1
      have := val_enc B32_gt b
      rw [h1] at this; simpa [val] using this.symm
    have hd0 : 0 < d := by omega
    (refine callOk_of_wpc (W := fun g => g == 76 || g == 97 || g == 98) false hm' Tryz.func85 rfl (by kernel_rfl) (Nat.le_of_ble_eq_true rfl) (go_start ?_); generalize hQ : Post Tryz.prog Tryz.f85 _ _ _ _ _ = Q; simp only [stIn, matL, matA, st00, natI])
    simp (disch := omega) only [go_sem, Nat.reduceEqDiff, Nat.reduceBEq, ↓reduceIte, reduceCtorEq]
    refine x_callP (i_Cmp a b (by omega) (by omega)) ci_cmp (by simp [evA, upd_app, ofVal, ofCell, natI]) (by simp [AV.pure, AV.pureL]) (by simp [AV.pure, AV.pureL]) ?_
    have hc : ¬ cmpI a b < 0 := by simp only [cmpI]; rw [if_neg hab]; split <;> omega
    have hn0 : (enc B32 b)[Int.toNat 0]? = some d := hd
    simp (disch := omega) only [go_sem, Nat.reduceEqDiff, Nat.reduceBEq, ↓reduceIte, reduceCtorEq, hb1, hn0]
    have hB : B32 = 4294967296 := rfl
    refine x_callP (i_divSmall a d (by omega) hd0 (by rw [← hB]; exact hdB)) ci_divSmall (by simp [evA, upd_app, ofVal, ofCell, natI]) (by simp [AV.pure, AV.pureL]) (by simp [AV.pure, AV.pureL]) ?_
    simp (disch := omega) only [go_sem, Nat.reduceEqDiff, Nat.reduceBEq, ↓reduceIte, reduceCtorEq]
    have e1 : [AV.int .u32 ((a % d : Nat) : Int)] = natA .u32 [a % d] := rfl
    rw [e1]
    refine x_callP (i_TrimE [a % d] true (by simp)) ci_trim (by simp [evA, upd_app, ofVal, ofCell]) (by simp [AV.pure, AV.pureL]) (by simp [AV.pure, AV.pureL]) ?_
    simp (disch := omega) only [go_sem, Nat.reduceEqDiff, Nat.reduceBEq, ↓reduceIte, reduceCtorEq]
    have e2 : trimZ [a % d] = enc B32 (a % d) := by
      rw [trimZ_enc B32_gt (by intro q hq; simp at hq; rw [hq]; exact Nat.lt_trans (Nat.mod_lt _ hd0) hdB)]; simp [val]
    rw [e2, ← hQ]
    exact post_two (.inl rfl) rfl (by simp [upd_app, natI, hbd] <;> omega) (by simp [upd_app, natI, hbd] <;> omega) (by simp) (by simp)
  obtain ⟨n, hn⟩ : ∃ n, (enc B32 b).length = n + 2 := ⟨(enc B32 b).length - 2, by
    have : (enc B32 b).length ≠ 0 := fun h => hb0 ((enc_nil B32_gt).1 (List.length_eq_zero_iff.1 h))
    omega⟩
  obtain ⟨na, hna⟩ : ∃ na, (enc B32 a).length = na := ⟨_, rfl⟩
  have hB : B32 = 4294967296 := rfl
  have hla : n + 2 ≤ na := by
    rw [← hn, ← hna]
    rcases Nat.lt_or_ge (enc B32 a).length (enc B32 b).length with h | h
    · exact absurd (enc_len_lt B32_gt h) hab
    · exact h
  obtain ⟨tp, htp⟩ := get_some (xs := enc B32 b) (i := n + 1) (by omega)
  have htpB : tp < 4294967296 := enc_lt B32_gt b tp (List.mem_of_getElem? htp)
  have htp0 : tp ≠ 0 := enc_last B32_gt b tp (by rw [List.getLast?_eq_getElem?, hn]; exact htp)
  obtain ⟨m1, m2, m3⟩ := norm_top htpB htp0
  obtain ⟨s, hs⟩ : ∃ s, 32 - len2 tp = s := ⟨_, rfl⟩
  rw [hs] at m1 m2 m3
  obtain ⟨S, hS⟩ : ∃ S, 2 ^ s = S := ⟨_, rfl⟩
  have hS0 : 0 < S := hS ▸ Nat.pow_pos (by omega)
  obtain ⟨T, hST⟩ : ∃ T, B32 = S * T := ⟨2 ^ (32 - s), by rw [← hS, ← Nat.pow_add, show s + (32 - s) = 32 by omega]; rfl⟩
  have hT0 : 0 < T := by rcases Nat.eq_zero_or_pos T with rfl | h; · rw [Nat.mul_zero] at hST; cases hST
                         · exact h
  rw [hS] at m1 m2
  have m4 : (tp + 1) * S ≤ B32 := by
    rw [hST, Nat.mul_comm S T]
    refine Nat.mul_le_mul_right _ ?_
    have : tp * S < T * S := by rw [Nat.mul_comm T S, ← hST, hB]; exact m2
    exact Nat.lt_of_mul_lt_mul_right this
  have hSB : S ≤ B32 := by have := Nat.mul_le_mul_left S hT0; rw [hST]; omega
  have hN := nrm_of B32_gt hn htp m4 (by rw [hB]; omega)
  obtain ⟨V, hV⟩ : ∃ V, b * S = V := ⟨_, rfl⟩
  obtain ⟨U, hU⟩ : ∃ U, a * S = U := ⟨_, rfl⟩
  obtain ⟨M, hM⟩ : ∃ M, M = na + 1 - (n + 2) := ⟨_, rfl⟩
  have hK := Kn.start (a := a) (M := M) hN hn hS0 (by omega) (by omega) hSB
  rw [hV] at hN
  rw [hV, hU, hna] at hK
  have hsa : shiftL a s = padL B32 (na + 1) U := by rw [shiftL, hS, hU, hna, padL]
  have hsb : trimZ (shiftL b s) = enc B32 V := by
    have : shiftL b s = padL B32 (n + 3) V := by rw [shiftL, hS, hV, hn, padL]
    have hlt : V < B32 ^ (n + 3) := Nat.lt_trans hN.lt (Nat.pow_lt_pow_right B32_gt (by omega))
    rw [this, trimZ_enc B32_gt (pad_lt B32_gt), pad_val B32_gt]
  have hpl : (padL B32 (na + 1) U).length = na + 1 := by rw [hK.len]; omega
  have hsbl : (shiftL b s).length = n + 3 := by
    have := enc_len_le B32_gt (show b * 2 ^ s < B32 ^ (n + 3) from by rw [hS, hV]; exact Nat.lt_trans hN.lt (Nat.pow_lt_pow_right B32_gt (by omega)))
    simp [shiftL, hn]; omega
  obtain ⟨f1, f2⟩ := quot_scale (a := a) (b := b) hS0
  rw [hU, hV] at f1 f2
  have hVl := hN.len
  clear hsbl
  (refine callOk_of_wpc (W := fun g => g == 76 || g == 97 || g == 98) false hm' Tryz.func85 rfl (by kernel_rfl) (Nat.le_of_ble_eq_true rfl) (go_start ?_); generalize hQ : Post Tryz.prog Tryz.f85 _ _ _ _ _ = Q; simp only [stIn, matL, matA, st00, natI])
  simp (disch := omega) only [go_sem, Nat.reduceEqDiff, Nat.reduceBEq, ↓reduceIte, reduceCtorEq]
  refine x_callP (i_Cmp a b (by omega) (by omega)) ci_cmp (by simp [evA, upd_app, ofVal, ofCell, natI]) (by simp [AV.pure, AV.pureL]) (by simp [AV.pure, AV.pureL]) ?_
  have hc : ¬ cmpI a b < 0 := by simp only [cmpI]; rw [if_neg hab]; split <;> omega
  have e1 : ((n + 2 : Nat) : Int) - 1 = ((n + 1 : Nat) : Int) := by omega
  simp (disch := omega) only [go_sem, Nat.reduceEqDiff, Nat.reduceBEq, ↓reduceIte, reduceCtorEq, hb1, hn, e1, htp]
  refine x_callP (g_LeadingZeros32 tp htpB htp0) c_LeadingZeros32 (by simp [evA, upd_app]) (by simp [AV.pure, AV.pureL]) rfl ?_
  rw [hs]
  simp (disch := omega) only [go_sem, Nat.reduceEqDiff, Nat.reduceBEq, ↓reduceIte, reduceCtorEq]
  refine x_callO (i_shifted a s (by omega) m3) ci_shifted (by simp [evA, upd_app, natI]) (by simp [AV.pure, AV.pureL]) (natA_pure _ _) rfl rfl ?_
  simp only [List.append_nil, List.length_nil, Nat.add_zero, natA_length, hsa, hpl]
  simp (disch := omega) only [go_sem, Nat.reduceEqDiff, Nat.reduceBEq, ↓reduceIte, reduceCtorEq]
  refine x_callO (i_shifted b s (by omega) m3) ci_shifted (by simp [evA, upd_app, natI]) (by simp [AV.pure, AV.pureL]) (natA_pure _ _) rfl rfl ?_
  simp only [List.append_nil, List.length_nil, Nat.add_zero, natA_length]
  refine x_callF (i_Trim ((shiftL b s).take (shiftL b s).length) (by simp; have := enc_len_le B32_gt hN.lt; simp [shiftL, hS, hV, hn]; omega)) ci_trim (by simp [evA, upd_app]) (snapL_one (id := 1) (st := ⟨_, _, _⟩) (by simp [upd_app]) rfl (Nat.le_refl _)) (by simp [upd_app]) (by simp [AV.pure, AV.pureL]) (by simp [AV.pure, AV.pureL]) (by simp) ?_
  rw [List.take_length, hsb]
  obtain ⟨top, next, ht1, ht2⟩ : ∃ top next, (enc B32 V)[n + 1]? = some top ∧ (enc B32 V)[n]? = some next := by
    obtain ⟨x, hx⟩ := get_some (xs := enc B32 V) (i := n + 1) (by omega)
    obtain ⟨y, hy⟩ := get_some (xs := enc B32 V) (i := n) (by omega)
    exact ⟨x, y, hx, hy⟩
  have htB : top < B32 := enc_lt B32_gt V _ (List.mem_of_getElem? ht1)
  have hnB : next < B32 := enc_lt B32_gt V _ (List.mem_of_getElem? ht2)
  have hhalf := hN.half _ ht1
  have e2 : ((n + 2 : Nat) : Int) - 2 = (n : Int) := by omega
  have e3 : ((na + 1 : Nat) : Int) - ((n + 2 : Nat) : Int) = (M : Int) := by omega
  rw [hB] at htB hnB hhalf
  simp (disch := omega) only [go_sem, ↓k_blockStop, Nat.reduceEqDiff, Nat.reduceBEq, ↓reduceIte, reduceCtorEq, hVl, e1, e2, e3, ht1, ht2, reach, hpl, List.length_replicate]; try unfold goB
  obtain ⟨R, hR⟩ : ∃ R : Nat × List Nat × List Nat → St → Prop, R = fun p st => st.fr 8 = .int .i64 s ∧ st.fr 9 = .ref 0 (na + 1) 0 (na + 1) ∧ st.fr 10 = natI V ∧ st.fr 11 = .int .u64 top ∧ st.fr 12 = .int .u64 next ∧ st.fr 13 = .ref 2 M 0 M ∧ st.fr 14 = .int .i64 ((p.1 : Int) - 1) ∧
      st.h 0 = ⟨114, natA .u32 p.2.1, true, true, true⟩ ∧ st.h 2 = ⟨114, natA .u32 (List.replicate p.1 0 ++ p.2.2), true, true, true⟩ ∧ Kn B32 V U M n p.1 p.2.1 p.2.2 := ⟨_, rfl⟩
  obtain ⟨F, hF⟩ : ∃ F : St → Prop, F = fun st => st.fr 8 = .int .i64 s ∧ st.fr 9 = .ref 0 (na + 1) 0 (na + 1) ∧ st.fr 13 = .ref 2 M 0 M ∧ ∃ us qs, st.h 0 = ⟨114, natA .u32 us, true, true, true⟩ ∧ st.h 2 = ⟨114, natA .u32 qs, true, true, true⟩ ∧ Kn B32 V U M n 0 us qs := ⟨_, rfl⟩
  have hMn : M + (n + 2) = na + 1 := by omega
  have hnab : na ≤ 1099511627775 := by omega
  refine k_join F ?_ ?_
  · simp (disch := omega) only [go_sem, Nat.reduceEqDiff, Nat.reduceBEq, ↓reduceIte, reduceCtorEq]
    clear hb0 hab hb1 hb ha hc e1 e2 e3 hsa hsb m1 m2 m4 hSB hST hT0 f1 f2 hs htp0 htpB htp hQ
    refine k_loop R (fun p => p.1) (M, padL B32 (na + 1) U, []) (by rw [hR]; exact ⟨(by simp [upd_app] <;> omega), (by simp [upd_app] <;> omega), (by simp [upd_app, natI] <;> omega), (by simp [upd_app] <;> omega), (by simp [upd_app] <;> omega), (by simp [upd_app] <;> omega), (by simp [upd_app] <;> omega), by simp [upd_app, eatH_one], by simp [upd_app, eatH_one], hK⟩) ?_
    clear hK hn hna hla hM hpl hV hU hS hS0
    rintro ⟨i, us, qs⟩ ⟨fr, h, nx⟩ hst J hJ
    rw [hR] at hst
    obtain ⟨h8, h9, h10, h11, h12, h13, h14, hm0, hm2, hK⟩ := hst
    simp only [natI] at h8 h9 h10 h11 h12 h13 h14 hm0 hm2 hK
    have hul : us.length = na + 1 := by rw [hK.len]; omega
    rcases Nat.eq_zero_or_pos i with rfl | hp
    · simp (disch := omega) only [go_sem, Nat.reduceEqDiff, Nat.reduceBEq, ↓reduceIte, reduceCtorEq, h8, h9, h10, h11, h12, h13, h14]
      rw [hF]
      exact ⟨(by simp [upd_app, h8] <;> omega), (by simp [upd_app, h9] <;> omega), (by simp [upd_app, h13] <;> omega), us, qs, hm0, by simpa using hm2, hK⟩
    · obtain ⟨j, rfl⟩ : ∃ j, i = j + 1 := ⟨i - 1, by omega⟩
      have hjM := hK.iM
      obtain ⟨top', next', u1, u2, u3, g1, g2, g3, g4, g5, c1, c2, c3, c4, c5, hD⟩ := hK.digs hN
      obtain rfl : top' = top := by rw [ht1] at g1; exact (Option.some.inj g1).symm
      obtain rfl : next' = next := by rw [ht2] at g2; exact (Option.some.inj g2).symm
      obtain ⟨W, hW⟩ : ∃ W, val B32 ((us.drop j).take (n + 3)) = W := ⟨_, rfl⟩
      rw [hW] at hD
      obtain ⟨x, hx⟩ : ∃ x, u1 * 4294967296 + u2 = x := ⟨_, rfl⟩
      have hx' : u1 * B32 + u2 = x := by rw [hB]; exact hx
      rw [hx'] at hD
      rw [hB] at c3 c4 c5
      have htop0 : ¬ (top' : Int) = 0 := by omega
      have e4 : ((j + (n + 2) : Nat) : Int) - 1 = ((j + (n + 1) : Nat) : Int) := by omega
      have e5 : ((j + (n + 2) : Nat) : Int) - 2 = ((j + n : Nat) : Int) := by omega
      have e6 : ((j + 1 : Nat) : Int) - 1 = (j : Int) := by omega
      rw [e6] at h14
      have hul2 : (natA .u32 us).length = na + 1 := by rw [natA_length, hul]
      obtain ⟨d0, hd0⟩ : ∃ d0, x / top' = d0 := ⟨_, rfl⟩
      obtain ⟨r0, hr0⟩ : ∃ r0, x % top' = r0 := ⟨_, rfl⟩
      have hst0 := hD.start
      have hst1 := hD.first
      have hst2 : d0 * top' + r0 = x := by rw [← hd0, ← hr0, Nat.mul_comm]; exact Nat.div_add_mod x top'
      have hst3 : r0 < top' := hr0 ▸ Nat.mod_lt _ (by omega)
      rw [hd0] at hst0 hst1
      simp (disch := omega) only [go_sem, ↓k_blockStop, Nat.reduceEqDiff, Nat.reduceBEq, ↓reduceIte, reduceCtorEq, h8, h9, h10, h11, h12, h13, h14]; try unfold goB
      rw [k_block]
      have hx2 : x < 18446744073709551616 := by omega
      have hd0b : d0 ≤ 4294967297 := by rw [hB] at hst1; exact hst1
      simp (disch := omega) only [go_sem, ↓k_blockStop, Nat.reduceEqDiff, Nat.reduceBEq, ↓reduceIte, reduceCtorEq, h8, h9, h10, h11, h12, h13, h14, hVl, e4, e5, hm0, hul2, g3, g4, hx, htop0, hd0, hr0]; try unfold goB
      obtain ⟨G, hG⟩ : ∃ G : St → Prop, G = fun st => st.fr 8 = .int .i64 s ∧ st.fr 9 = .ref 0 (na + 1) 0 (na + 1) ∧ st.fr 10 = natI V ∧ st.fr 11 = .int .u64 top' ∧ st.fr 12 = .int .u64 next' ∧ st.fr 13 = .ref 2 M 0 M ∧ st.fr 14 = .int .i64 j ∧ st.fr 15 = .int .i64 ((j + (n + 2) : Nat) : Int) ∧
          st.h 0 = ⟨114, natA .u32 us, true, true, true⟩ ∧ st.h 2 = ⟨114, natA .u32 (List.replicate (j + 1) 0 ++ qs), true, true, true⟩ ∧ ∃ d, st.fr 17 = .int .u64 d ∧ Est B32 V W d := ⟨_, rfl⟩
      refine k_join G ?_ ?_
      · simp (disch := omega) only [go_sem, Nat.reduceEqDiff, Nat.reduceBEq, ↓reduceIte, reduceCtorEq]
        clear hJ hR hF
        obtain ⟨R2, hR2⟩ : ∃ R2 : Nat × Nat → St → Prop, R2 = fun p st => st.fr 8 = .int .i64 s ∧ st.fr 9 = .ref 0 (na + 1) 0 (na + 1) ∧ st.fr 10 = natI V ∧ st.fr 11 = .int .u64 top' ∧ st.fr 12 = .int .u64 next' ∧ st.fr 13 = .ref 2 M 0 M ∧ st.fr 14 = .int .i64 j ∧ st.fr 15 = .int .i64 ((j + (n + 2) : Nat) : Int) ∧
          st.h 0 = ⟨114, natA .u32 us, true, true, true⟩ ∧ st.h 2 = ⟨114, natA .u32 (List.replicate (j + 1) 0 ++ qs), true, true, true⟩ ∧ st.fr 17 = .int .u64 p.1 ∧ st.fr 18 = .int .u64 p.2 ∧ p.1 * top' + p.2 = x ∧ W < (p.1 + 1) * V ∧ p.1 ≤ 4294967297 ∧ p.2 < 4294967296 := ⟨_, rfl⟩
        refine k_loop R2 (fun p => p.1) (d0, r0) (by rw [hR2]; exact ⟨(by simp [upd_app, h8] <;> omega), (by simp [upd_app, h9] <;> omega), (by simp [upd_app, h10, natI] <;> omega), (by simp [upd_app, h11] <;> omega), (by simp [upd_app, h12] <;> omega), (by simp [upd_app, h13] <;> omega), (by simp [upd_app, h14] <;> omega), (by simp [upd_app] <;> omega), hm0, hm2, (by simp [upd_app] <;> omega), (by simp [upd_app] <;> omega), hst2, hst0, hd0b, by simp only; omega⟩) ?_
        clear h8 h9 h10 h11 h12 h13 h14 hm0 hm2 hst0 hst1 hst2 hst3 hd0 hr0 hd0b
        rintro ⟨d, r⟩ ⟨fr, h, nx⟩ hst J2 hJ2
        rw [hR2] at hst
        obtain ⟨h8, h9, h10, h11, h12, h13, h14, h15, hm0, hm2, h17, h18, q1, q2, q3, q4⟩ := hst
        simp only [natI] at h8 h9 h10 h11 h12 h13 h14 h15 hm0 hm2 h17 h18 q1 q2 q3 q4
        have key : 4294967296 ≤ d ∨ r * 4294967296 + u3 < d * next' → 0 < d ∧ ((d : Int) - 1 = ((d - 1 : Nat) : Int)) ∧ (∀ st : St, st.fr 8 = .int .i64 s → st.fr 9 = .ref 0 (na + 1) 0 (na + 1) → st.fr 10 = natI V → st.fr 11 = .int .u64 top' → st.fr 12 = .int .u64 next' → st.fr 13 = .ref 2 M 0 M → st.fr 14 = .int .i64 j → st.fr 15 = .int .i64 ((j + (n + 2) : Nat) : Int) →
            st.h = h → st.fr 17 = .int .u64 ((d - 1 : Nat) : Int) → st.fr 18 = .int .u64 ((r + top' : Nat) : Int) → r + top' < 4294967296 → J2 st) ∧ (4294967296 ≤ r + top' → Est B32 V W (d - 1)) := by
          intro hc
          rw [← hB] at hc
          obtain ⟨p1, p2, p3⟩ := hD.less q1 hc
          refine ⟨p1, by omega, fun st r8 r9 r10 r11 r12 r13 r14 r15 rh r17 r18 hr => hJ2 (d - 1, r + top') st ?_ (by simp only; omega), fun hr => ?_⟩
          · rw [hR2]; exact ⟨r8, r9, r10, r11, r12, r13, r14, r15, by rw [rh]; exact hm0, by rw [rh]; exact hm2, r17, r18, p3, p2, by simp only; omega, hr⟩
          · refine hD.early p3 p2 ?_ (by rw [hB]; exact hr)
            rcases Nat.lt_or_ge B32 d with h' | h'
            · have := hD.small q1 h'; rw [hB] at this; omega
            · omega
        have fin : d < 4294967296 → d * next' ≤ r * 4294967296 + u3 → Est B32 V W d := fun a b => hD.done q1 q2 (by rw [hB]; exact a) (by rw [hB]; exact b)
        clear hJ2 hR2 q1 q2 hD hN hK
        obtain ⟨z, hz⟩ : ∃ z, d * next' = z := ⟨_, rfl⟩
        rw [hz] at key fin
        by_cases hdB : 4294967296 ≤ d
        · obtain ⟨p1, p2, p3, p4⟩ := key (.inl hdB)
          by_cases hr : 4294967296 ≤ r + top'
          · simp (disch := omega) only [go_sem, Nat.reduceEqDiff, Nat.reduceBEq, ↓reduceIte, reduceCtorEq, h8, h9, h10, h11, h12, h13, h14, h15, h17, h18, p2]
            rw [hG]; exact ⟨(by simp [upd_app, h8] <;> omega), (by simp [upd_app, h9] <;> omega), (by simp [upd_app, h10, natI] <;> omega), (by simp [upd_app, h11] <;> omega), (by simp [upd_app, h12] <;> omega), (by simp [upd_app, h13] <;> omega), (by simp [upd_app, h14] <;> omega), (by simp [upd_app, h15] <;> omega), hm0, hm2, d - 1, (by simp [upd_app] <;> omega), p4 hr⟩
          · simp (disch := omega) only [go_sem, Nat.reduceEqDiff, Nat.reduceBEq, ↓reduceIte, reduceCtorEq, h8, h9, h10, h11, h12, h13, h14, h15, h17, h18, p2]
            exact p3 _ (by simp [upd_app, h8] <;> omega) (by simp [upd_app, h9] <;> omega) (by simp [upd_app, h10, natI] <;> omega) (by simp [upd_app, h11] <;> omega) (by simp [upd_app, h12] <;> omega) (by simp [upd_app, h13] <;> omega) (by simp [upd_app, h14] <;> omega) (by simp [upd_app, h15] <;> omega) rfl (by simp [upd_app] <;> omega) (by simp [upd_app] <;> omega) (by omega)
        · have hzb : z ≤ 4294967295 * 4294967295 := by rw [← hz]; exact Nat.mul_le_mul (by omega) (by omega)
          by_cases hcc : r * 4294967296 + u3 < z
          · obtain ⟨p1, p2, p3, p4⟩ := key (.inr hcc)
            by_cases hr : 4294967296 ≤ r + top'
            · simp (disch := omega) only [go_sem, Nat.reduceEqDiff, Nat.reduceBEq, ↓reduceIte, reduceCtorEq, h8, h9, h10, h11, h12, h13, h14, h15, h17, h18, p2, e5, hm0, hul2, g5, hz]
              rw [hG]; exact ⟨(by simp [upd_app, h8] <;> omega), (by simp [upd_app, h9] <;> omega), (by simp [upd_app, h10, natI] <;> omega), (by simp [upd_app, h11] <;> omega), (by simp [upd_app, h12] <;> omega), (by simp [upd_app, h13] <;> omega), (by simp [upd_app, h14] <;> omega), (by simp [upd_app, h15] <;> omega), hm0, hm2, d - 1, (by simp [upd_app] <;> omega), p4 hr⟩
            · simp (disch := omega) only [go_sem, Nat.reduceEqDiff, Nat.reduceBEq, ↓reduceIte, reduceCtorEq, h8, h9, h10, h11, h12, h13, h14, h15, h17, h18, p2, e5, hm0, hul2, g5, hz]
              exact p3 _ (by simp [upd_app, h8] <;> omega) (by simp [upd_app, h9] <;> omega) (by simp [upd_app, h10, natI] <;> omega) (by simp [upd_app, h11] <;> omega) (by simp [upd_app, h12] <;> omega) (by simp [upd_app, h13] <;> omega) (by simp [upd_app, h14] <;> omega) (by simp [upd_app, h15] <;> omega) rfl (by simp [upd_app] <;> omega) (by simp [upd_app] <;> omega) (by omega)
          · simp (disch := omega) only [go_sem, Nat.reduceEqDiff, Nat.reduceBEq, ↓reduceIte, reduceCtorEq, h8, h9, h10, h11, h12, h13, h14, h15, h17, h18, e5, hm0, hul2, g5, hz]
            rw [hG]; exact ⟨(by simp [upd_app, h8] <;> omega), (by simp [upd_app, h9] <;> omega), (by simp [upd_app, h10, natI] <;> omega), (by simp [upd_app, h11] <;> omega), (by simp [upd_app, h12] <;> omega), (by simp [upd_app, h13] <;> omega), (by simp [upd_app, h14] <;> omega), (by simp [upd_app, h15] <;> omega), hm0, hm2, d, (by simp [upd_app, h17] <;> omega), fin (by omega) (by omega)⟩
      clear h8 h9 h10 h11 h12 h13 h14 hm0 hm2 hst0 hst1 hst2 hst3 hd0 hr0 hd0b
      rintro ⟨fr, h, nx⟩ hst
      rw [hG] at hst
      obtain ⟨h8, h9, h10, h11, h12, h13, h14, h15, hm0, hm2, d, h17, hE⟩ := hst
      simp only [natI] at h8 h9 h10 h11 h12 h13 h14 h15 hm0 hm2 h17
      obtain ⟨w1, w2, w3, w4, w5⟩ := hK.win hN
      have hlj : (us.take j).length = j := by simp; omega
      have hsub : j + (n + 2) + 1 - j = n + 3 := by omega
      have hdlt := hE.lt
      have hdlow := hE.low
      have hV0 := hN.pos
      have hul2 : (natA .u32 us).length = na + 1 := by rw [natA_length, hul]
      have hdB2 : d < 4294967296 := by rw [← hB]; exact hdlt
      simp (disch := omega) only [go_sem, Nat.reduceEqDiff, Nat.reduceBEq, ↓reduceIte, reduceCtorEq, h8, h9, h10, h11, h12, h13, h14, h15, h17, hm0, hul2, hsub]
      refine x_callI (i_takeAway (id := 0) (n := na + 1) (pre := us.take j) (ws := (us.drop j).take (n + 3)) (post := us.drop (j + (n + 3))) V d (by rw [← split3]; exact hm0) (by rw [← split3]; exact hul) w2 (by rw [w1, hVl]; omega) (by omega) hdlt (by rw [hW]; exact hdlow)) ci_takeAway (by rw [hlj, w1]; simp [evA, upd_app, natI]) (.inl rfl) ?_
      rw [hW, w1]
      have e7 : (natA .u32 (List.replicate (j + 1) 0 ++ qs)).length = M := by have := hK.qlen; rw [natA_length]; simp; omega
      have e8 : (List.replicate (j + 1) 0 ++ qs)[j]? = some 0 := by rw [List.getElem?_append_left (by simp), List.getElem?_replicate, if_pos (by omega)]
      have hdm := Nat.div_add_mod' W V
      by_cases hover : W < d * V
      · obtain ⟨p1, p2, p3, p4⟩ := hE.over hV0 hover
        have haw : awayV W V d = W % V := by rw [awayV, if_pos hover, p3, p2]; omega
        have hK' := hK.step hN (q := d - 1) (r := W % V) (by rw [hW]; exact p2) (by rw [hW])
        have hd1 : (d : Int) - 1 = ((d - 1 : Nat) : Int) := by omega
        have hdec : decide (W < d * V) = true := by simpa using hover
        rw [haw, hdec]
        have key : ∀ st : St, st.fr 8 = .int .i64 s → st.fr 9 = .ref 0 (na + 1) 0 (na + 1) → st.fr 10 = natI V → st.fr 11 = .int .u64 top' → st.fr 12 = .int .u64 next' → st.fr 13 = .ref 2 M 0 M → st.fr 14 = .int .i64 ((j : Int) - 1) →
            st.h 0 = ⟨114, natA .u32 (us.take j ++ padL B32 (n + 3) (W % V) ++ us.drop (j + (n + 3))), true, true, true⟩ → st.h 2 = ⟨114, natA .u32 (List.replicate j 0 ++ (d - 1) :: qs), true, true, true⟩ → J st :=
          fun st r8 r9 r10 r11 r12 r13 r14 rh0 rh2 => hJ (j, us.take j ++ padL B32 (n + 3) (W % V) ++ us.drop (j + (n + 3)), (d - 1) :: qs) st (by rw [hR]; exact ⟨r8, r9, r10, r11, r12, r13, r14, rh0, rh2, hK'⟩) (by simp only; omega)
        clear hJ hover haw hdm p2 p3 p4 hE hdlow hdlt hR hF hD hK hK' w1 w2 w3 w4 w5
        simp (disch := omega) only [go_sem, Nat.reduceEqDiff, Nat.reduceBEq, ↓reduceIte, reduceCtorEq, h8, h9, h10, h11, h12, h13, h14, h15, h17, hd1, hm2, e7, e8]
        exact key _ (by simp [upd_app, h8] <;> omega) (by simp [upd_app, h9] <;> omega) (by simp [upd_app, h10, natI] <;> omega) (by simp [upd_app, h11] <;> omega) (by simp [upd_app, h12] <;> omega) (by simp [upd_app, h13] <;> omega) (by simp [upd_app] <;> omega) (by simp [upd_app]) (by simp only [upd_app, ↓reduceIte, replicate_set])
      · have hq := hE.right hV0 (by omega)
        have haw : awayV W V d = W % V := by rw [awayV, if_neg hover, hq]; omega
        have hK' := hK.step hN (q := d) (r := W % V) (by rw [hW]; exact hq) (by rw [hW])
        have hdec : decide (W < d * V) = false := by simpa using hover
        rw [haw, hdec]
        have key : ∀ st : St, st.fr 8 = .int .i64 s → st.fr 9 = .ref 0 (na + 1) 0 (na + 1) → st.fr 10 = natI V → st.fr 11 = .int .u64 top' → st.fr 12 = .int .u64 next' → st.fr 13 = .ref 2 M 0 M → st.fr 14 = .int .i64 ((j : Int) - 1) →
            st.h 0 = ⟨114, natA .u32 (us.take j ++ padL B32 (n + 3) (W % V) ++ us.drop (j + (n + 3))), true, true, true⟩ → st.h 2 = ⟨114, natA .u32 (List.replicate j 0 ++ d :: qs), true, true, true⟩ → J st :=
          fun st r8 r9 r10 r11 r12 r13 r14 rh0 rh2 => hJ (j, us.take j ++ padL B32 (n + 3) (W % V) ++ us.drop (j + (n + 3)), d :: qs) st (by rw [hR]; exact ⟨r8, r9, r10, r11, r12, r13, r14, rh0, rh2, hK'⟩) (by simp only; omega)
        clear hJ hover haw hdm hq hE hdlow hdlt hR hF hD hK hK' w1 w2 w3 w4 w5
        simp (disch := omega) only [go_sem, Nat.reduceEqDiff, Nat.reduceBEq, ↓reduceIte, reduceCtorEq, h8, h9, h10, h11, h12, h13, h14, h15, h17, hm2, e7, e8]
        exact key _ (by simp [upd_app, h8] <;> omega) (by simp [upd_app, h9] <;> omega) (by simp [upd_app, h10, natI] <;> omega) (by simp [upd_app, h11] <;> omega) (by simp [upd_app, h12] <;> omega) (by simp [upd_app, h13] <;> omega) (by simp [upd_app] <;> omega) (by simp [upd_app]) (by simp only [upd_app, ↓reduceIte, replicate_set])
  rintro ⟨fr, h, nx⟩ hst
  rw [hF] at hst
  obtain ⟨h8, h9, h13, us, qs, hm0, hm2, hK⟩ := hst
  simp only at h8 h9 h13 hm0 hm2
  obtain ⟨z1, z2⟩ := hK.done hN
  have hul : us.length = na + 1 := by rw [hK.len, hMn]
  have hqlen : qs.length = M := by have := hK.qlen; omega
  have husd := hK.lt
  have hqd := hK.qlt
  rw [f1] at z1
  rw [f2] at z2
  have htz : trimZ us = enc B32 (a % b * S) := by rw [trimZ_enc B32_gt husd, z2]
  obtain ⟨L, hL⟩ : ∃ L, (enc B32 (a % b * S)).length = L := ⟨_, rfl⟩
  have hLna : L ≤ na + 1 := by
    rw [← hL, ← z2]
    exact enc_len_le B32_gt (by rw [← hul]; exact val_lt husd)
  have hpad := enc_pad B32_gt husd
  rw [z2, hul, hL] at hpad
  have hqt : trimZ (qs.take M) = enc B32 (a / b) := by rw [List.take_of_length_le (by omega), trimZ_enc B32_gt hqd, z1]
  clear hb0 hab hb1 hb ha hc e1 e2 e3 hsa hsb m1 m2 m4 hSB f1 f2 hs htp0 htpB htp hN hK hF hR hV hU hM hla hn hpl ht1 ht2 htB hnB hhalf hVl z1 z2
  simp (disch := omega) only [go_sem, Nat.reduceEqDiff, Nat.reduceBEq, ↓reduceIte, reduceCtorEq, h8, h9, h13]
  have hTI := i_TrimIn (fr := upd fr 144 (.ref 0 (na + 1) 0 (na + 1))) (h := h) (nx := nx) (id := 0) (n := na + 1) (xs := us) (by rw [hm0]) (by rw [hm0, natA_length, hul]) (by rw [hm0]) (by omega) (by omega) (by rw [hm0, natA_take, hul, List.take_of_length_le (by omega)])
  rw [htz, hL, hul] at hTI
  refine x_callI hTI ci_trim (by simp [evA, upd_app]) (.inl rfl) ?_
  have hml : (natA .u32 us).length = na + 1 := by rw [natA_length, hul]
  simp (disch := omega) only [go_sem, Nat.reduceEqDiff, Nat.reduceBEq, ↓reduceIte, reduceCtorEq, h8, h9, h13, hm0, hml]
  obtain ⟨R3, hR3⟩ : ∃ R3 : Nat → St → Prop, R3 = fun i st => st.fr 8 = .int .i64 s ∧ st.fr 9 = .ref 0 (na + 1) 0 L ∧ st.fr 13 = .ref 2 M 0 M ∧ st.fr 147 = .int .i64 L ∧ st.fr 148 = .int .i64 i ∧ i ≤ L ∧
      st.h 0 = ⟨114, natA .u32 (((padL B32 L (a % b)).take i ++ (enc B32 (a % b * S)).drop i) ++ List.replicate (na + 1 - L) 0), true, true, true⟩ ∧ st.h 2 = ⟨114, natA .u32 qs, true, true, true⟩ := ⟨_, rfl⟩
  refine k_loop R3 (fun i => L - i) 0 (by rw [hR3]; exact ⟨(by simp [upd_app, h8] <;> omega), (by simp [upd_app] <;> omega), (by simp [upd_app, h13] <;> omega), (by simp [upd_app] <;> omega), (by simp [upd_app] <;> omega), by simp, by rw [List.take_zero, List.nil_append, List.drop_zero, ← hpad]; exact hm0, hm2⟩) ?_
  clear hTI h8 h9 h13 hm0 hm2 hml
  have hpl : (padL B32 L (a % b)).length = L := by
    refine pad_len B32_gt ?_
    have h1 := enc_len_pow B32_gt (n := a % b * S)
    rw [hL] at h1
    have := Nat.mul_le_mul_left (a % b) hS0
    omega
  rintro i ⟨fr, h, nx⟩ hst J hJ
  rw [hR3] at hst
  obtain ⟨h8, h9, h13, h147, h148, hi, hm0, hm2⟩ := hst
  simp only at h8 h9 h13 h147 h148 hm0 hm2
  by_cases hin : i < L
  · obtain ⟨x, hx⟩ := get_some (xs := enc B32 (a % b * S)) (i := i) (by omega)
    have hxB := enc_lt B32_gt _ x (List.mem_of_getElem? hx)
    obtain ⟨hg, hhg⟩ : ∃ hg, (enc B32 (a % b * S)).getD (i + 1) 0 = hg := ⟨_, rfl⟩
    have hgB : hg < B32 := hhg ▸ getD_lt B32_gt (enc_lt B32_gt _) _
    have hat := shr_at B32_gt hST hS0 hT0 (by rw [← hL]; exact enc_len_pow B32_gt) hx hin
    rw [hhg, Nat.mul_div_cancel _ hS0] at hat
    have hset := take_drop_set (R := enc B32 (a % b * S)) hat (by omega)
    have hbl : ((padL B32 L (a % b)).take i ++ (enc B32 (a % b * S)).drop i).length = L := by simp; omega
    have hall : (natA .u32 (((padL B32 L (a % b)).take i ++ (enc B32 (a % b * S)).drop i) ++ List.replicate (na + 1 - L) 0)).length = na + 1 := by rw [natA_length, List.length_append, hbl]; simp; omega
    have hti : ((padL B32 L (a % b)).take i).length = i := by simp; omega
    have hr1 : (((padL B32 L (a % b)).take i ++ (enc B32 (a % b * S)).drop i) ++ List.replicate (na + 1 - L) 0)[i]? = some x := by
      rw [List.getElem?_append_left (by omega), List.getElem?_append_right (by omega), hti, List.getElem?_drop, Nat.sub_self, Nat.add_zero]; exact hx
    have hr2 : i + 1 < L → (((padL B32 L (a % b)).take i ++ (enc B32 (a % b * S)).drop i) ++ List.replicate (na + 1 - L) 0)[i + 1]? = some hg := by
      intro h1
      rw [List.getElem?_append_left (by omega), List.getElem?_append_right (by omega), hti, List.getElem?_drop, show i + (i + 1 - i) = i + 1 by omega, ← hhg]; exact getD_some (by omega)
    have hws : ∀ v, (((padL B32 L (a % b)).take i ++ (enc B32 (a % b * S)).drop i) ++ List.replicate (na + 1 - L) 0).set i v = (((padL B32 L (a % b)).take i ++ (enc B32 (a % b * S)).drop i).set i v) ++ List.replicate (na + 1 - L) 0 := fun v => List.set_append_left _ _ (by omega)
    have hg0 : ¬ i + 1 < L → hg = 0 := fun h1 => hhg ▸ getD_none (by omega)
    have key : ∀ st : St, st.fr 8 = .int .i64 s → st.fr 9 = .ref 0 (na + 1) 0 L → st.fr 13 = .ref 2 M 0 M → st.fr 147 = .int .i64 L → st.fr 148 = .int .i64 ((i + 1 : Nat) : Int) →
        st.h 0 = ⟨114, natA .u32 ((((padL B32 L (a % b)).take i ++ (enc B32 (a % b * S)).drop i).set i ((hg * 4294967296 + x) / S % 4294967296)) ++ List.replicate (na + 1 - L) 0), true, true, true⟩ → st.h 2 = ⟨114, natA .u32 qs, true, true, true⟩ → J st := by
      intro st r8 r9 r13 r147 r148 rh0 rh2
      rw [← hB, hset] at rh0
      exact hJ (i + 1) st (by rw [hR3]; exact ⟨r8, r9, r13, r147, r148, hin, rh0, rh2⟩) (by omega)
    generalize ((padL B32 L (a % b)).take i ++ (enc B32 (a % b * S)).drop i) ++ List.replicate (na + 1 - L) 0 = ds at *
    have hq64 : (hg * 4294967296 + x) / S < 18446744073709551616 := Nat.lt_of_le_of_lt (Nat.div_le_self _ _) (by omega)
    clear hJ hR3 hset hat hhg hpl hbl hti hx hpad hqt htz hL
    rw [hB] at hxB hgB
    have hs64 : s ≤ 64 := by omega
    obtain ⟨y, hy⟩ : ∃ y, (hg * 4294967296 + x) / S = y := ⟨_, rfl⟩
    rw [hy] at key hq64
    by_cases h1 : i + 1 < L
    · have hr2' := hr2 h1
      clear hr2 hg0
      simp (disch := omega) only [go_sem, Nat.reduceEqDiff, Nat.reduceBEq, ↓reduceIte, reduceCtorEq, h8, h9, h13, h147, h148, hm0, hall, hr1, hr2', hws, shrV, hS, hy, wrapU32, wrapU32m]
      exact key _ (by simp [upd_app, h8] <;> omega) (by simp [upd_app, h9] <;> omega) (by simp [upd_app, h13] <;> omega) (by simp [upd_app, h147] <;> omega) (by simp [upd_app] <;> omega) (by simp [upd_app]) (by simp [upd_app, hm2])
    · have hg0' := hg0 h1
      subst hg0'
      simp only [Nat.zero_mul, Nat.zero_add] at hy
      clear hr2 hg0
      simp (disch := omega) only [go_sem, Nat.reduceEqDiff, Nat.reduceBEq, ↓reduceIte, reduceCtorEq, h8, h9, h13, h147, h148, hm0, hall, hr1, hws, shrV, hS, hy, wrapU32, wrapU32m, Int.zero_mul, Int.zero_add]
      exact key _ (by simp [upd_app, h8] <;> omega) (by simp [upd_app, h9] <;> omega) (by simp [upd_app, h13] <;> omega) (by simp [upd_app, h147] <;> omega) (by simp [upd_app] <;> omega) (by simp [upd_app]) (by simp [upd_app, hm2])
  · obtain rfl : i = L := by omega
    rw [List.take_of_length_le (by omega), List.drop_eq_nil_of_le (by omega), List.append_nil] at hm0
    clear hJ hR3
    simp (disch := omega) only [go_sem, Nat.reduceEqDiff, Nat.reduceBEq, ↓reduceIte, reduceCtorEq, h8, h9, h13, h147, h148]
    refine x_callF (i_Trim (qs.take M) (by simp; omega)) ci_trim (by simp [evA, upd_app]) (snapL_one (id := 2) (st := ⟨_, _, _⟩) hm2 hqlen (Nat.le_refl _)) (by simp [hm2]) (by simp [AV.pure, AV.pureL]) (by simp [AV.pure, AV.pureL]) (by simp) ?_
    rw [hqt]
    simp (disch := omega) only [go_sem, Nat.reduceEqDiff, Nat.reduceBEq, ↓reduceIte, reduceCtorEq, h9]
    refine x_callF (i_Trim ((padL B32 i (a % b) ++ List.replicate (na + 1 - i) 0).take i) (by simp; omega)) ci_trim (by simp [evA, upd_app]) (snapL_one (id := 0) (n := na + 1) (st := ⟨_, _, _⟩) (by simp [eatH_one]; exact hm0) (by simp [hpl]; omega) (by omega)) (by simp [eatH_one, hm0]) (by simp [AV.pure, AV.pureL]) (by simp [AV.pure, AV.pureL]) (by simp) ?_
    have e9 : trimZ ((padL B32 i (a % b) ++ List.replicate (na + 1 - i) 0).take i) = enc B32 (a % b) := by
      rw [List.take_append_of_le_length (by omega), List.take_of_length_le (by omega), trimZ_enc B32_gt (pad_lt B32_gt), pad_val B32_gt]
    rw [e9]
    simp (disch := omega) only [go_sem, Nat.reduceEqDiff, Nat.reduceBEq, ↓reduceIte, reduceCtorEq]
    rw [← hQ]
    exact post_two (.inl rfl) rfl (by simp [upd_app, natI] <;> omega) (by simp [upd_app, natI] <;> omega) (by simp) (by simp)
theorem ci_gcd : callable Tryz.prog 72 = true := by kernel_rfl
theorem gcd_step (x y : Nat) : Nat.gcd y (x % y) = Nat.gcd x y := by rw [Nat.gcd_comm, ← Nat.gcd_rec, Nat.gcd_comm]
theorem enc_len_mono {B m n : Nat} (hB : 1 < B) (h : m ≤ n) : (enc B m).length ≤ (enc B n).length := enc_len_le hB (Nat.lt_of_le_of_lt h (enc_len_pow hB))
theorem enc_len_pos {B n : Nat} (hB : 1 < B) (h : n ≠ 0) : 0 < (enc B n).length := by
  rcases Nat.eq_zero_or_pos (enc B n).length with h' | h'
  · exact absurd ((enc_nil hB).1 (List.length_eq_zero_iff.1 h')) h
  · exact h'
theorem i_gcd (a b : Nat) (ha : (enc B32 a).length ≤ 1099511627775) (hb : (enc B32 b).length ≤ 1099511627775) : CallOk Tryz.prog 72 [natI a, natI b] (natI (Nat.gcd a b)) [] := by
  (refine callOk_of_wpc (W := fun _ => false) false hm' Tryz.func72 rfl (by kernel_rfl) (Nat.le_of_ble_eq_true rfl) (go_start ?_); generalize hQ : Post Tryz.prog Tryz.f72 _ _ _ _ _ = Q; simp only [stIn, matL, matA, st00, natI])
  simp (disch := omega) only [go_sem, Nat.reduceEqDiff, Nat.reduceBEq, ↓reduceIte, reduceCtorEq]
  refine k_loop (fun (p : Nat × Nat) st => st.fr 0 = natI p.1 ∧ st.fr 1 = natI p.2 ∧ Nat.gcd p.1 p.2 = Nat.gcd a b ∧ (enc B32 p.1).length ≤ 1099511627775 ∧ (enc B32 p.2).length ≤ 1099511627775) (fun p => p.2) (a, b)
    ⟨(by simp [upd_app, natI] <;> omega), (by simp [upd_app, natI] <;> omega), rfl, ha, hb⟩ ?_
  rintro ⟨x, y⟩ ⟨fr, h, nx⟩ ⟨h0, h1, hg, hx, hy⟩ J hJ
  simp only [natI] at h0 h1 hg hx hy
  by_cases hy0 : y = 0
  · subst hy0
    rw [Nat.gcd_zero_right] at hg
    rw [enc_zero] at h1
    simp (disch := omega) only [go_sem, Nat.reduceEqDiff, Nat.reduceBEq, ↓reduceIte, reduceCtorEq, h0, h1, List.length_nil]
    rw [← hQ]
    exact post_one (.inl rfl) rfl (by simp [upd_app, h0, natI, hg] <;> omega) (by simp)
  · have hyl := enc_len_pos B32_gt hy0
    have hsx := i_small x (by omega)
    have hsy := i_small y (by omega)
    simp only [smallI] at hsx hsy
    have hgs := gcd_step x y
    have hK : (enc B32 (x % y)).length ≤ 1099511627775 := Nat.le_trans (enc_len_mono B32_gt (Nat.le_of_lt (Nat.mod_lt _ (by omega)))) hy
    have hdiv := i_div x y (by omega) hy0 (by omega)
    have hlt : x % y < y := Nat.mod_lt _ (by omega)
    have go2 : ∀ st : St, st.fr 0 = natI y → st.fr 1 = natI (x % y) → J st := fun st r0 r1 => hJ (y, x % y) st ⟨r0, r1, by rw [← hg]; exact hgs, hy, hK⟩ hlt
    simp (disch := omega) only [go_sem, Nat.reduceEqDiff, Nat.reduceBEq, ↓reduceIte, reduceCtorEq, h0, h1]
    by_cases hxs : x < 18446744073709551616
    · rw [if_pos hxs] at hsx
      refine x_callP (hsx) ci_small (by simp [evA, upd_app, ofVal, ofCell, natI, h0]) (by simp [AV.pure, AV.pureL]) (by simp [AV.pure, AV.pureL]) ?_
      by_cases hys : y < 18446744073709551616
      · rw [if_pos hys] at hsy
        simp (disch := omega) only [go_sem, Nat.reduceEqDiff, Nat.reduceBEq, ↓reduceIte, reduceCtorEq, h0, h1]
        refine x_callP (hsy) ci_small (by simp [evA, upd_app, ofVal, ofCell, natI, h1]) (by simp [AV.pure, AV.pureL]) (by simp [AV.pure, AV.pureL]) ?_
        simp (disch := omega) only [go_sem, Nat.reduceEqDiff, Nat.reduceBEq, ↓reduceIte, reduceCtorEq]
        clear hJ go2 hdiv hsx hsy
        refine k_loop (fun (p : Nat × Nat) st => st.fr 5 = .int .u64 p.1 ∧ st.fr 7 = .int .u64 p.2 ∧ Nat.gcd p.1 p.2 = Nat.gcd a b ∧ p.1 < 18446744073709551616 ∧ p.2 < 18446744073709551616) (fun p => p.2) (x, y) ⟨(by simp [upd_app] <;> omega), (by simp [upd_app] <;> omega), hg, hxs, hys⟩ ?_
        clear h0 h1 hg hgs hK hx hy hlt hyl hy0 hxs hys
        rintro ⟨u, v⟩ ⟨fr, h, nx⟩ ⟨h5, h7, hg, hu, hv⟩ J2 hJ2
        simp only at h5 h7 hg hu hv
        rcases Nat.eq_zero_or_pos v with rfl | hv0
        · simp (disch := omega) only [go_sem, Nat.reduceEqDiff, Nat.reduceBEq, ↓reduceIte, reduceCtorEq, h5, h7]
          refine x_callP (i_natOf u hu) ci_natOf (by simp [evA, upd_app, ofVal, ofCell, h5]) (by simp [AV.pure, AV.pureL]) (by simp [AV.pure, AV.pureL]) ?_
          simp (disch := omega) only [go_sem, Nat.reduceEqDiff, Nat.reduceBEq, ↓reduceIte, reduceCtorEq]
          rw [Nat.gcd_zero_right] at hg
          rw [← hQ]
          exact post_one (.inl rfl) rfl (by simp [upd_app, hg] <;> omega) (by simp)
        · have hm : u % v < v := Nat.mod_lt _ hv0
          have hne : ¬ (v : Int) = 0 := by omega
          simp (disch := omega) only [go_sem, Nat.reduceEqDiff, Nat.reduceBEq, ↓reduceIte, reduceCtorEq, h5, h7, hne]
          exact hJ2 (v, u % v) _ ⟨(by simp [upd_app] <;> omega), (by simp [upd_app] <;> omega), by rw [← hg]; exact gcd_step u v, hv, by simp only; omega⟩ hm
      · rw [if_neg hys] at hsy
        simp (disch := omega) only [go_sem, Nat.reduceEqDiff, Nat.reduceBEq, ↓reduceIte, reduceCtorEq, h0, h1]
        refine x_callP (hsy) ci_small (by simp [evA, upd_app, ofVal, ofCell, natI, h1]) (by simp [AV.pure, AV.pureL]) (by simp [AV.pure, AV.pureL]) ?_
        simp (disch := omega) only [go_sem, Nat.reduceEqDiff, Nat.reduceBEq, ↓reduceIte, reduceCtorEq, h0, h1]
        refine x_callP (hdiv) ci_div (by simp [evA, upd_app, ofVal, ofCell, natI, h0, h1]) (by simp [AV.pure, AV.pureL]) (by simp [AV.pure, AV.pureL]) ?_
        simp (disch := omega) only [go_sem, Nat.reduceEqDiff, Nat.reduceBEq, ↓reduceIte, reduceCtorEq, h0, h1]
        exact go2 _ (by simp [upd_app, natI] <;> omega) (by simp [upd_app] <;> omega)
    · rw [if_neg hxs] at hsx
      refine x_callP (hsx) ci_small (by simp [evA, upd_app, ofVal, ofCell, natI, h0]) (by simp [AV.pure, AV.pureL]) (by simp [AV.pure, AV.pureL]) ?_
      simp (disch := omega) only [go_sem, Nat.reduceEqDiff, Nat.reduceBEq, ↓reduceIte, reduceCtorEq, h0, h1]
      by_cases hys : y < 18446744073709551616
      · rw [if_pos hys] at hsy
        refine x_callP (hsy) ci_small (by simp [evA, upd_app, ofVal, ofCell, natI, h1]) (by simp [AV.pure, AV.pureL]) (by simp [AV.pure, AV.pureL]) ?_
        simp (disch := omega) only [go_sem, Nat.reduceEqDiff, Nat.reduceBEq, ↓reduceIte, reduceCtorEq, h0, h1]
        refine x_callP (hdiv) ci_div (by simp [evA, upd_app, ofVal, ofCell, natI, h0, h1]) (by simp [AV.pure, AV.pureL]) (by simp [AV.pure, AV.pureL]) ?_
        simp (disch := omega) only [go_sem, Nat.reduceEqDiff, Nat.reduceBEq, ↓reduceIte, reduceCtorEq, h0, h1]
        exact go2 _ (by simp [upd_app, natI] <;> omega) (by simp [upd_app] <;> omega)
      · rw [if_neg hys] at hsy
        refine x_callP (hsy) ci_small (by simp [evA, upd_app, ofVal, ofCell, natI, h1]) (by simp [AV.pure, AV.pureL]) (by simp [AV.pure, AV.pureL]) ?_
        simp (disch := omega) only [go_sem, Nat.reduceEqDiff, Nat.reduceBEq, ↓reduceIte, reduceCtorEq, h0, h1]
        refine x_callP (hdiv) ci_div (by simp [evA, upd_app, ofVal, ofCell, natI, h0, h1]) (by simp [AV.pure, AV.pureL]) (by simp [AV.pure, AV.pureL]) ?_
        simp (disch := omega) only [go_sem, Nat.reduceEqDiff, Nat.reduceBEq, ↓reduceIte, reduceCtorEq, h0, h1]
        exact go2 _ (by simp [upd_app, natI] <;> omega) (by simp [upd_app] <;> omega)
attribute [simp] natS_pure
theorem c_NatDiv : callable Tryz.prog 78 = true := by kernel_rfl
theorem norm_half {B t m : Nat} (hB : B % 2 = 0) (ht : 0 < t) (htB : t < B) (hm : m = B / (t + 1)) : B ≤ 2 * (t * m) ∧ (t + 1) * m ≤ B ∧ 0 < m := by
  have h1 := Nat.div_add_mod B (t + 1)
  have h2 := Nat.mod_lt B (show 0 < t + 1 by omega)
  rw [← hm] at h1
  obtain ⟨r, hr⟩ : ∃ r, B % (t + 1) = r := ⟨_, rfl⟩
  rw [hr] at h1 h2
  have hm0 : 0 < m := by rw [hm]; exact Nat.div_pos (by omega) (by omega)
  refine ⟨?_, by omega, hm0⟩
  rw [Nat.add_mul, Nat.one_mul] at h1
  by_cases hm1 : m = 1
  · subst hm1; omega
  · by_cases ht1 : t = 1
    · subst ht1; omega
    · obtain ⟨x, rfl⟩ : ∃ x, t = x + 2 := ⟨t - 2, by omega⟩
      obtain ⟨y, rfl⟩ : ∃ y, m = y + 2 := ⟨m - 2, by omega⟩
      have : (x + 2) * (y + 2) = x * y + 2 * x + 2 * y + 4 := by rw [Nat.add_mul, Nat.mul_add, Nat.mul_add]; omega
      omega
theorem natS_zero : natS 0 = .sl 2 [] [] false := by simp [natS, enc_zero, natA]
theorem natA_nil {k : IntKind} : natA k [] = [] := rfl
theorem post_two_frozen {P : Program} {fn : Func} {n0 : Nat} {fl : Bool} {t u : Tmp} {id n len id2 n2 len2 T T2 : Nat} {r s : List AV} {st : St} {e : Ex} (he : e = .ret ∨ e = .normal) (hr : fn.results.toList = [.tmp t, .tmp u]) (hv : st.fr t = .ref id n 0 len) (hw : st.fr u = .ref id2 n2 0 len2)
  (hlv : (st.h id).lv = true) (hn : (st.h id).xs.length = n) (ht : (st.h id).t = T) (hl : len ≤ n) (hid : n0 ≤ id) (hxs : (st.h id).xs.take len = r) (hp : AV.pureL r = true)
  (hlv2 : (st.h id2).lv = true) (hn2 : (st.h id2).xs.length = n2) (ht2 : (st.h id2).t = T2) (hl2 : len2 ≤ n2) (hid2 : n0 ≤ id2) (hxs2 : (st.h id2).xs.take len2 = s) (hp2 : AV.pureL s = true) :
  Post P fn n0 fl false (.tup [.sl T r [] false, .sl T2 s [] false]) [] e st :=
 post_tup he hr hv hw (snap_frozen (d := 6) hlv hn ht (by omega) (by rw [List.drop_zero]; exact hxs) hp) (snap_frozen (d := 6) hlv2 hn2 ht2 (by omega) (by rw [List.drop_zero]; exact hxs2) hp2)
  (by intro a ha; simp at ha; rcases ha with rfl | rfl <;> assumption) (.inl rfl)
theorem InOk.re {P : Program} {fr : Nat → AV} {h h' : Nat → Blk} {nx nx' : Nat} {g : FuncId} {al : List AV} {x : AV} (hi : InOk P ⟨fr, h, nx⟩ g al x ⟨fr, h', nx'⟩) (fr2 : Nat → AV) : InOk P ⟨fr2, h, nx⟩ g al x ⟨fr2, h', nx'⟩ := ⟨rfl, hi.2⟩
theorem off_lt {W Bn d V Y : Nat} (h : W < d * V) (hY : W + Bn - d * V = Y) (h0 : 0 < Bn := by exact Nat.pow_pos (by decide)) : Y < Bn := by omega
theorem off_ge {W Bn d V Y r : Nat} (hle : d * V ≤ W + V) (hr : W + V - d * V = r) (h : W < d * V) (hV : V < Bn) (hY : W + Bn - d * V = Y) : Bn ≤ Y + V ∧ Y + V - Bn = r := by omega
set_option maxHeartbeats 2000000 in
theorem s_NatDiv (a b : Nat) (ha : (enc B9 a).length ≤ 1099511627775) (hb0 : b ≠ 0) (hb : (enc B9 b).length ≤ 1099511627775) : CallOk Tryz.prog 78 [natS a, natS b] (.tup [natS (a / b), natS (a % b)]) [] := by
  have hSa := s_Small hm' a (by omega)
  have hSb := s_Small hm' b (by omega)
  simp only [smallS] at hSa hSb
  have hB : B9 = 1000000000 := rfl
  have hbi : ¬ (b : Int) = 0 := by omega
  by_cases hsm : a < 1000000000000000000 ∧ b < 1000000000000000000
  · obtain ⟨h1, h2⟩ := hsm
    rw [if_pos h1] at hSa
    rw [if_pos h2] at hSb
    have hq : a / b ≤ a := Nat.div_le_self _ _
    have hr : a % b < b := Nat.mod_lt _ (by omega)
    obtain ⟨q, hq'⟩ : ∃ q, a / b = q := ⟨_, rfl⟩
    obtain ⟨r, hr'⟩ : ∃ r, a % b = r := ⟨_, rfl⟩
    rw [hq'] at hq
    rw [hr'] at hr
    rw [hq', hr']
    (refine callOk_of_wpc (W := fun g => g == 63 || g == 88 || g == 89 || g == 90) false hm' Tryz.func78 rfl (by kernel_rfl) (Nat.le_of_ble_eq_true rfl) (go_start ?_); generalize hQ : Post Tryz.prog Tryz.f78 _ _ _ _ _ = Q; simp only [stIn, matL, matA, st00, natS])
    simp (disch := omega) only [go_sem, Nat.reduceEqDiff, Nat.reduceBEq, ↓reduceIte, reduceCtorEq]
    refine x_callP (hSa) c_Small (by simp [evA, upd_app, ofVal, ofCell, natS]) (by simp [AV.pure, AV.pureL]) (by simp [AV.pure, AV.pureL]) ?_
    simp (disch := omega) only [go_sem, Nat.reduceEqDiff, Nat.reduceBEq, ↓reduceIte, reduceCtorEq]
    refine x_callP (hSb) c_Small (by simp [evA, upd_app, ofVal, ofCell, natS]) (by simp [AV.pure, AV.pureL]) (by simp [AV.pure, AV.pureL]) ?_
    simp (disch := omega) only [go_sem, Nat.reduceEqDiff, Nat.reduceBEq, ↓reduceIte, reduceCtorEq, hbi, hq', hr']
    refine x_callP (s_Nat hm' q (by omega)) c_Nat (by simp [evA, upd_app, ofVal, ofCell]) (by simp [AV.pure, AV.pureL]) (by simp [AV.pure, AV.pureL]) ?_
    simp (disch := omega) only [go_sem, Nat.reduceEqDiff, Nat.reduceBEq, ↓reduceIte, reduceCtorEq, hbi, hq', hr']
    refine x_callP (s_Nat hm' r (by omega)) c_Nat (by simp [evA, upd_app, ofVal, ofCell]) (by simp [AV.pure, AV.pureL]) (by simp [AV.pure, AV.pureL]) ?_
    simp (disch := omega) only [go_sem, Nat.reduceEqDiff, Nat.reduceBEq, ↓reduceIte, reduceCtorEq]
    rw [← hQ]
    exact post_two (.inl rfl) rfl (by simp [upd_app, natS] <;> omega) (by simp [upd_app, natS] <;> omega) (by simp) (by simp)
  have cs_Cmp := c_Cmp
  by_cases hsa : a < 1000000000000000000
  · have hab : a < b := by omega
    rw [if_pos hsa] at hSa
    rw [if_neg (by omega)] at hSb
    have hcc := cmpI_lt hab
    have e1 : a / b = 0 := Nat.div_eq_of_lt hab
    have e2 : a % b = a := Nat.mod_eq_of_lt hab
    rw [e1, e2]
    (refine callOk_of_wpc (W := fun g => g == 63 || g == 88 || g == 89 || g == 90) false hm' Tryz.func78 rfl (by kernel_rfl) (Nat.le_of_ble_eq_true rfl) (go_start ?_); generalize hQ : Post Tryz.prog Tryz.f78 _ _ _ _ _ = Q; simp only [stIn, matL, matA, st00, natS])
    simp (disch := omega) only [go_sem, Nat.reduceEqDiff, Nat.reduceBEq, ↓reduceIte, reduceCtorEq]
    refine x_callP (hSa) c_Small (by simp [evA, upd_app, ofVal, ofCell, natS]) (by simp [AV.pure, AV.pureL]) (by simp [AV.pure, AV.pureL]) ?_
    simp (disch := omega) only [go_sem, Nat.reduceEqDiff, Nat.reduceBEq, ↓reduceIte, reduceCtorEq]
    refine x_callP (hSb) c_Small (by simp [evA, upd_app, ofVal, ofCell, natS]) (by simp [AV.pure, AV.pureL]) (by simp [AV.pure, AV.pureL]) ?_
    simp (disch := omega) only [go_sem, Nat.reduceEqDiff, Nat.reduceBEq, ↓reduceIte, reduceCtorEq]
    refine x_callP (s_Cmp hm' a b (by omega) (by omega)) cs_Cmp (by simp [evA, upd_app, ofVal, ofCell, natS]) (by simp [AV.pure, AV.pureL]) (by simp [AV.pure, AV.pureL]) ?_
    simp (disch := omega) only [go_sem, Nat.reduceEqDiff, Nat.reduceBEq, ↓reduceIte, reduceCtorEq, hcc]
    rcases Nat.eq_zero_or_pos (enc B9 a).length with h0 | h0
    · have h00 := List.length_eq_zero_iff.1 h0
      simp (disch := omega) only [go_sem, Nat.reduceEqDiff, Nat.reduceBEq, ↓reduceIte, reduceCtorEq, h00, natA_nil, reach]
      rw [← hQ, natS_zero, natS, h00]
      exact post_two_frozen (id := 0) (n := 0) (len := 0) (id2 := 1) (n2 := 0) (len2 := 0) (.inl rfl) rfl (by simp [upd_app] <;> omega) (by simp [upd_app] <;> omega) (by simp [upd_app]) (by simp [upd_app]) (by simp [upd_app]) (Nat.le_refl _) (Nat.zero_le _) (by simp [upd_app]) rfl (by simp [upd_app]) (by simp [upd_app]) (by simp [upd_app]) (Nat.le_refl _) (Nat.zero_le _) (by simp [upd_app, natA_nil]) rfl
    · obtain ⟨na, hna⟩ : ∃ na, (enc B9 a).length = na := ⟨_, rfl⟩
      simp (disch := omega) only [go_sem, Nat.reduceEqDiff, Nat.reduceBEq, ↓reduceIte, reduceCtorEq, reach, hna, List.nil_append]
      rw [← hQ, natS_zero, natS]
      exact post_two_frozen (id := 0) (n := 0) (len := 0) (id2 := 1) (n2 := na) (len2 := na) (.inl rfl) rfl (by simp [upd_app] <;> omega) (by simp [upd_app] <;> omega) (by simp [upd_app]) (by simp [upd_app]) (by simp [upd_app]) (Nat.le_refl _) (Nat.zero_le _) (by simp [upd_app]) rfl (by simp [upd_app]) (by simp [upd_app, natA_length, hna]) (by simp [upd_app]) (Nat.le_refl _) (Nat.zero_le _) (by simp [upd_app, natA_take]; rw [List.take_of_length_le (by omega)]) (natA_pure _ _)
  rw [if_neg hsa] at hSa
  obtain ⟨y2, o2, hSb⟩ : ∃ (y2 : Nat) (o2 : Bool), CallOk Tryz.prog 86 [natS b] (.tup [.int .i64 y2, .bool o2]) [] := by
    by_cases h : b < 1000000000000000000
    · rw [if_pos h] at hSb; exact ⟨b, true, hSb⟩
    · rw [if_neg h] at hSb; exact ⟨0, false, hSb⟩
  by_cases hab : a < b
  · have hcc := cmpI_lt hab
    have e1 : a / b = 0 := Nat.div_eq_of_lt hab
    have e2 : a % b = a := Nat.mod_eq_of_lt hab
    rw [e1, e2]
    (refine callOk_of_wpc (W := fun g => g == 63 || g == 88 || g == 89 || g == 90) false hm' Tryz.func78 rfl (by kernel_rfl) (Nat.le_of_ble_eq_true rfl) (go_start ?_); generalize hQ : Post Tryz.prog Tryz.f78 _ _ _ _ _ = Q; simp only [stIn, matL, matA, st00, natS])
    simp (disch := omega) only [go_sem, Nat.reduceEqDiff, Nat.reduceBEq, ↓reduceIte, reduceCtorEq]
    refine x_callP (hSa) c_Small (by simp [evA, upd_app, ofVal, ofCell, natS]) (by simp [AV.pure, AV.pureL]) (by simp [AV.pure, AV.pureL]) ?_
    simp (disch := omega) only [go_sem, Nat.reduceEqDiff, Nat.reduceBEq, ↓reduceIte, reduceCtorEq]
    refine x_callP (hSb) c_Small (by simp [evA, upd_app, ofVal, ofCell, natS]) (by simp [AV.pure, AV.pureL]) (by simp [AV.pure, AV.pureL]) ?_
    simp (disch := omega) only [go_sem, Nat.reduceEqDiff, Nat.reduceBEq, ↓reduceIte, reduceCtorEq]
    refine x_callP (s_Cmp hm' a b (by omega) (by omega)) cs_Cmp (by simp [evA, upd_app, ofVal, ofCell, natS]) (by simp [AV.pure, AV.pureL]) (by simp [AV.pure, AV.pureL]) ?_
    simp (disch := omega) only [go_sem, Nat.reduceEqDiff, Nat.reduceBEq, ↓reduceIte, reduceCtorEq, hcc]
    rcases Nat.eq_zero_or_pos (enc B9 a).length with h0 | h0
    · have h00 := List.length_eq_zero_iff.1 h0
      simp (disch := omega) only [go_sem, Nat.reduceEqDiff, Nat.reduceBEq, ↓reduceIte, reduceCtorEq, h00, natA_nil, reach]
      rw [← hQ, natS_zero, natS, h00]
      exact post_two_frozen (id := 0) (n := 0) (len := 0) (id2 := 1) (n2 := 0) (len2 := 0) (.inl rfl) rfl (by simp [upd_app] <;> omega) (by simp [upd_app] <;> omega) (by simp [upd_app]) (by simp [upd_app]) (by simp [upd_app]) (Nat.le_refl _) (Nat.zero_le _) (by simp [upd_app]) rfl (by simp [upd_app]) (by simp [upd_app]) (by simp [upd_app]) (Nat.le_refl _) (Nat.zero_le _) (by simp [upd_app, natA_nil]) rfl
    · obtain ⟨na, hna⟩ : ∃ na, (enc B9 a).length = na := ⟨_, rfl⟩
      simp (disch := omega) only [go_sem, Nat.reduceEqDiff, Nat.reduceBEq, ↓reduceIte, reduceCtorEq, reach, hna, List.nil_append]
      rw [← hQ, natS_zero, natS]
      exact post_two_frozen (id := 0) (n := 0) (len := 0) (id2 := 1) (n2 := na) (len2 := na) (.inl rfl) rfl (by simp [upd_app] <;> omega) (by simp [upd_app] <;> omega) (by simp [upd_app]) (by simp [upd_app]) (by simp [upd_app]) (Nat.le_refl _) (Nat.zero_le _) (by simp [upd_app]) rfl (by simp [upd_app]) (by simp [upd_app, natA_length, hna]) (by simp [upd_app]) (Nat.le_refl _) (Nat.zero_le _) (by simp [upd_app, natA_take]; rw [List.take_of_length_le (by omega)]) (natA_pure _ _)
  by_cases hb1 : (enc B9 b).length = 1
  · obtain ⟨d, hd⟩ := get_some (xs := enc B9 b) (i := 0) (by omega)
    have hdB := enc_lt B9_gt b d (List.mem_of_getElem? hd)
    have hbd : b = d := by
      have h1 := drop_cons hd
      rw [List.drop_zero, List.drop_eq_nil_of_le (by omega)] at h1
      have := val_enc B9_gt b
      rw [h1] at this; simpa [val] using this.symm
    have hd0 : 0 < d := by omega
    have hnc : ¬ cmpI a b < 0 := by simp only [cmpI]; rw [if_neg hab]; split <;> omega
    have hn0 : (enc B9 b)[Int.toNat 0]? = some d := hd
    rw [hB] at hdB
    obtain ⟨r, hr⟩ : ∃ r, a % d = r := ⟨_, rfl⟩
    have hrd : r < d := hr ▸ Nat.mod_lt _ hd0
    have hSD := s_ShortDiv hm' a d (by omega) hd0 (by omega)
    rw [hr] at hSD
    (refine callOk_of_wpc (W := fun g => g == 63 || g == 88 || g == 89 || g == 90) false hm' Tryz.func78 rfl (by kernel_rfl) (Nat.le_of_ble_eq_true rfl) (go_start ?_); generalize hQ : Post Tryz.prog Tryz.f78 _ _ _ _ _ = Q; simp only [stIn, matL, matA, st00, natS])
    simp (disch := omega) only [go_sem, Nat.reduceEqDiff, Nat.reduceBEq, ↓reduceIte, reduceCtorEq]
    refine x_callP (hSa) c_Small (by simp [evA, upd_app, ofVal, ofCell, natS]) (by simp [AV.pure, AV.pureL]) (by simp [AV.pure, AV.pureL]) ?_
    simp (disch := omega) only [go_sem, Nat.reduceEqDiff, Nat.reduceBEq, ↓reduceIte, reduceCtorEq]
    refine x_callP (hSb) c_Small (by simp [evA, upd_app, ofVal, ofCell, natS]) (by simp [AV.pure, AV.pureL]) (by simp [AV.pure, AV.pureL]) ?_
    simp (disch := omega) only [go_sem, Nat.reduceEqDiff, Nat.reduceBEq, ↓reduceIte, reduceCtorEq]
    refine x_callP (s_Cmp hm' a b (by omega) (by omega)) cs_Cmp (by simp [evA, upd_app, ofVal, ofCell, natS]) (by simp [AV.pure, AV.pureL]) (by simp [AV.pure, AV.pureL]) ?_
    simp (disch := omega) only [go_sem, Nat.reduceEqDiff, Nat.reduceBEq, ↓reduceIte, reduceCtorEq, hb1, hn0]
    refine x_callP (hSD) c_ShortDiv (by simp [evA, upd_app, ofVal, ofCell, natS]) (by simp [AV.pure, AV.pureL]) (by simp [AV.pure, AV.pureL]) ?_
    simp (disch := omega) only [go_sem, Nat.reduceEqDiff, Nat.reduceBEq, ↓reduceIte, reduceCtorEq]
    refine x_callP (s_Nat hm' r (by omega)) c_Nat (by simp [evA, upd_app, ofVal, ofCell, natS]) (by simp [AV.pure, AV.pureL]) (by simp [AV.pure, AV.pureL]) ?_
    simp (disch := omega) only [go_sem, Nat.reduceEqDiff, Nat.reduceBEq, ↓reduceIte, reduceCtorEq]
    rw [← hQ]
    exact post_two (.inl rfl) rfl (by simp [upd_app, natS, hbd] <;> omega) (by simp [upd_app, natS, hbd, hr] <;> omega) (by simp) (by simp)
  obtain ⟨n, hn⟩ : ∃ n, (enc B9 b).length = n + 2 := ⟨(enc B9 b).length - 2, by
    have : (enc B9 b).length ≠ 0 := fun h => hb0 ((enc_nil B9_gt).1 (List.length_eq_zero_iff.1 h))
    omega⟩
  obtain ⟨na, hna⟩ : ∃ na, (enc B9 a).length = na := ⟨_, rfl⟩
  have hla : n + 2 ≤ na := by
    rw [← hn, ← hna]
    rcases Nat.lt_or_ge (enc B9 a).length (enc B9 b).length with h | h
    · exact absurd (enc_len_lt B9_gt h) hab
    · exact h
  obtain ⟨tp, htp⟩ := get_some (xs := enc B9 b) (i := n + 1) (by omega)
  have htpB : tp < 1000000000 := enc_lt B9_gt b tp (List.mem_of_getElem? htp)
  have htp0 : tp ≠ 0 := enc_last B9_gt b tp (by rw [List.getLast?_eq_getElem?, hn]; exact htp)
  obtain ⟨m, hm⟩ : ∃ m, m = 1000000000 / (tp + 1) := ⟨_, rfl⟩
  obtain ⟨m1, m2, m3⟩ := norm_half (by decide) (by omega) htpB hm
  have hmB : m ≤ 1000000000 := by rw [hm]; exact Nat.div_le_self _ _
  have hN := nrm_of B9_gt hn htp (by rw [hB]; exact m2) (by rw [hB]; exact m1)
  obtain ⟨V, hV⟩ : ∃ V, b * m = V := ⟨_, rfl⟩
  obtain ⟨U, hU⟩ : ∃ U, a * m = U := ⟨_, rfl⟩
  obtain ⟨M, hM⟩ : ∃ M, M = na + 1 - (n + 2) := ⟨_, rfl⟩
  have hK := Kn.start (a := a) (M := M) hN hn m3 (by omega) (by omega) (by rw [hB]; exact hmB)
  rw [hV] at hN
  rw [hV, hU, hna] at hK
  have hpl : (padL B9 (na + 1) U).length = na + 1 := by rw [hK.len]; omega
  obtain ⟨f1, f2⟩ := quot_scale (a := a) (b := b) m3
  rw [hU, hV] at f1 f2
  have hVl := hN.len
  have hSMa := s_ShortMul hm' a m (by omega) m3 hmB
  have hSMb := s_ShortMul hm' b m (by omega) m3 hmB
  rw [hU] at hSMa
  rw [hV] at hSMb
  simp only [natS] at hSMa hSMb
  have hUl : (enc B9 U).length ≤ na + 1 := by
    have : (padL B9 (na + 1) U).length = (enc B9 U).length + (na + 1 - (enc B9 U).length) := by simp [padL]
    omega
  have hnc : ¬ cmpI a b < 0 := by simp only [cmpI]; rw [if_neg hab]; split <;> omega
  have e1 : ((n + 2 : Nat) : Int) - 1 = ((n + 1 : Nat) : Int) := by omega
  have w0 : (1000000000 : Int).tdiv ((tp + 1 : Nat) : Int) = (m : Int) := by rw [hm]; exact tdivN 1000000000 (tp + 1)
  have hdr0 : (List.replicate (na + 1) 0).drop (enc B9 U).length = List.replicate (na + 1 - (enc B9 U).length) (0 : Nat) := List.drop_replicate
  (refine callOk_of_wpc (W := fun g => g == 63 || g == 88 || g == 89 || g == 90) false hm' Tryz.func78 rfl (by kernel_rfl) (Nat.le_of_ble_eq_true rfl) (go_start ?_); generalize hQ : Post Tryz.prog Tryz.f78 _ _ _ _ _ = Q; simp only [stIn, matL, matA, st00, natS])
  simp (disch := omega) only [go_sem, Nat.reduceEqDiff, Nat.reduceBEq, ↓reduceIte, reduceCtorEq]
  refine x_callP (hSa) c_Small (by simp [evA, upd_app, ofVal, ofCell, natS]) (by simp [AV.pure, AV.pureL]) (by simp [AV.pure, AV.pureL]) ?_
  simp (disch := omega) only [go_sem, Nat.reduceEqDiff, Nat.reduceBEq, ↓reduceIte, reduceCtorEq]
  refine x_callP (hSb) c_Small (by simp [evA, upd_app, ofVal, ofCell, natS]) (by simp [AV.pure, AV.pureL]) (by simp [AV.pure, AV.pureL]) ?_
  simp (disch := omega) only [go_sem, Nat.reduceEqDiff, Nat.reduceBEq, ↓reduceIte, reduceCtorEq]
  refine x_callP (s_Cmp hm' a b (by omega) (by omega)) cs_Cmp (by simp [evA, upd_app, ofVal, ofCell, natS]) (by simp [AV.pure, AV.pureL]) (by simp [AV.pure, AV.pureL]) ?_
  simp (disch := omega) only [go_sem, Nat.reduceEqDiff, Nat.reduceBEq, ↓reduceIte, reduceCtorEq, hb1, hn, hna, e1, htp, w0, reach]
  refine x_callP (hSMa) c_ShortMul (by simp [evA, upd_app, ofVal, ofCell, natS]) (by simp [AV.pure, AV.pureL]) (by simp [AV.pure, AV.pureL]) ?_
  have hpd : enc B9 U ++ List.replicate (na + 1 - (enc B9 U).length) 0 = padL B9 (na + 1) U := rfl
  simp (disch := omega) only [go_sem, Nat.reduceEqDiff, Nat.reduceBEq, ↓reduceIte, reduceCtorEq, copyA, natA_length, natA_drop, hdr0, List.take_zero, List.nil_append, List.length_replicate, List.length_append, natA_append, hpd, hpl]
  refine x_callP (hSMb) c_ShortMul (by simp [evA, upd_app, ofVal, ofCell, natS]) (by simp [AV.pure, AV.pureL]) (by simp [AV.pure, AV.pureL]) ?_
  have e3 : ((na + 1 : Nat) : Int) - ((n + 2 : Nat) : Int) = (M : Int) := by omega
  obtain ⟨top, next, ht1, ht2⟩ : ∃ top next, (enc B9 V)[n + 1]? = some top ∧ (enc B9 V)[n]? = some next := by
    obtain ⟨x, hx⟩ := get_some (xs := enc B9 V) (i := n + 1) (by omega)
    obtain ⟨y, hy⟩ := get_some (xs := enc B9 V) (i := n) (by omega)
    exact ⟨x, y, hx, hy⟩
  have htB : top < B9 := enc_lt B9_gt V _ (List.mem_of_getElem? ht1)
  have hnB : next < B9 := enc_lt B9_gt V _ (List.mem_of_getElem? ht2)
  have hhalf := hN.half _ ht1
  have e2 : ((n + 2 : Nat) : Int) - 2 = (n : Int) := by omega
  rw [hB] at htB hnB hhalf
  simp (disch := omega) only [go_sem, ↓k_blockStop, Nat.reduceEqDiff, Nat.reduceBEq, ↓reduceIte, reduceCtorEq, hVl, hpl, e3, reach, natA_length, List.length_replicate]; try unfold goB
  obtain ⟨R, hR⟩ : ∃ R : Nat × List Nat × List Nat → St → Prop, R = fun p st => st.fr 12 = .int .i64 m ∧ st.fr 13 = .ref 0 (na + 1) 0 (na + 1) ∧ st.fr 14 = natS V ∧ st.fr 15 = .int .i64 ((n + 2 : Nat) : Int) ∧ st.fr 16 = .ref 1 M 0 M ∧ st.fr 17 = .int .i64 ((p.1 : Int) - 1) ∧
      st.h 0 = ⟨2, natA .i64 p.2.1, true, true, true⟩ ∧ st.h 1 = ⟨2, natA .i64 (List.replicate p.1 0 ++ p.2.2), true, true, true⟩ ∧ Kn B9 V U M n p.1 p.2.1 p.2.2 := ⟨_, rfl⟩
  obtain ⟨F, hF⟩ : ∃ F : St → Prop, F = fun st => st.fr 12 = .int .i64 m ∧ st.fr 13 = .ref 0 (na + 1) 0 (na + 1) ∧ st.fr 16 = .ref 1 M 0 M ∧ ∃ us qs, st.h 0 = ⟨2, natA .i64 us, true, true, true⟩ ∧ st.h 1 = ⟨2, natA .i64 qs, true, true, true⟩ ∧ Kn B9 V U M n 0 us qs := ⟨_, rfl⟩
  have hMn : M + (n + 2) = na + 1 := by omega
  have hnab : na ≤ 1099511627775 := by omega
  refine k_join F ?_ ?_
  · simp (disch := omega) only [go_sem, Nat.reduceEqDiff, Nat.reduceBEq, ↓reduceIte, reduceCtorEq]
    clear hb0 hab hb1 hb ha e1 e3 m1 m2 f1 f2 htp0 htpB htp hQ hSa hSb hSMa hSMb hsa hbi hsm w0 hnc hmB
    refine k_loop R (fun p => p.1) (M, padL B9 (na + 1) U, []) (by rw [hR]; exact ⟨(by simp [upd_app] <;> omega), (by simp [upd_app] <;> omega), (by simp [upd_app, natS] <;> omega), (by simp [upd_app] <;> omega), (by simp [upd_app] <;> omega), (by simp [upd_app] <;> omega), by simp [upd_app], by simp [upd_app], hK⟩) ?_
    clear hK hn hna hla hM hpl hV hU hUl hdr0 hpd hm m3
    rintro ⟨i, us, qs⟩ ⟨fr, h, nx⟩ hst J hJ
    rw [hR] at hst
    obtain ⟨h12, h13, h14, h15, h16, h17, hm0, hm2, hK⟩ := hst
    simp only [natS] at h12 h13 h14 h15 h16 h17 hm0 hm2 hK
    have hul : us.length = na + 1 := by rw [hK.len]; omega
    rcases Nat.eq_zero_or_pos i with rfl | hp
    · simp (disch := omega) only [go_sem, Nat.reduceEqDiff, Nat.reduceBEq, ↓reduceIte, reduceCtorEq, h12, h13, h14, h15, h16, h17]
      rw [hF]
      exact ⟨(by simp [upd_app, h12] <;> omega), (by simp [upd_app, h13] <;> omega), (by simp [upd_app, h16] <;> omega), us, qs, hm0, by simpa using hm2, hK⟩
    · obtain ⟨j, rfl⟩ : ∃ j, i = j + 1 := ⟨i - 1, by omega⟩
      have hjM := hK.iM
      obtain ⟨top', next', u1, u2, u3, g1, g2, g3, g4, g5, c1, c2, c3, c4, c5, hD⟩ := hK.digs hN
      obtain rfl : top' = top := by rw [ht1] at g1; exact (Option.some.inj g1).symm
      obtain rfl : next' = next := by rw [ht2] at g2; exact (Option.some.inj g2).symm
      obtain ⟨W, hW⟩ : ∃ W, val B9 ((us.drop j).take (n + 3)) = W := ⟨_, rfl⟩
      rw [hW] at hD
      obtain ⟨x, hx⟩ : ∃ x, u1 * 1000000000 + u2 = x := ⟨_, rfl⟩
      have hx' : u1 * B9 + u2 = x := by rw [hB]; exact hx
      rw [hx'] at hD
      rw [hB] at c3 c4 c5
      have htop0 : ¬ (top' : Int) = 0 := by omega
      have e4 : ((j + (n + 2) : Nat) : Int) - 1 = ((j + (n + 1) : Nat) : Int) := by omega
      have e5 : ((j + (n + 2) : Nat) : Int) - 2 = ((j + n : Nat) : Int) := by omega
      have e6 : ((j + 1 : Nat) : Int) - 1 = (j : Int) := by omega
      have e1 : ((n + 2 : Nat) : Int) - 1 = ((n + 1 : Nat) : Int) := by omega
      rw [e6] at h17
      have hul2 : (natA .i64 us).length = na + 1 := by rw [natA_length, hul]
      obtain ⟨d0, hd0⟩ : ∃ d0, x / top' = d0 := ⟨_, rfl⟩
      obtain ⟨r0, hr0⟩ : ∃ r0, x % top' = r0 := ⟨_, rfl⟩
      have hst0 := hD.start
      have hst1 := hD.first
      have hst2 : d0 * top' + r0 = x := by rw [← hd0, ← hr0, Nat.mul_comm]; exact Nat.div_add_mod x top'
      have hst3 : r0 < top' := hr0 ▸ Nat.mod_lt _ (by omega)
      rw [hd0] at hst0 hst1
      simp (disch := omega) only [go_sem, ↓k_blockStop, Nat.reduceEqDiff, Nat.reduceBEq, ↓reduceIte, reduceCtorEq, h12, h13, h14, h15, h16, h17]; try unfold goB
      rw [k_block]
      have hx2 : x < 1000000000000000000 := by omega
      have hd0b : d0 ≤ 1000000001 := by rw [hB] at hst1; exact hst1
      simp (disch := omega) only [go_sem, ↓k_blockStop, Nat.reduceEqDiff, Nat.reduceBEq, ↓reduceIte, reduceCtorEq, h12, h13, h14, h15, h16, h17, hVl, natA_length, e1, e4, e5, hm0, hul, g3, g4, ht1, ht2, hx, htop0, hd0, hr0]; try unfold goB
      obtain ⟨G, hG⟩ : ∃ G : St → Prop, G = fun st => st.fr 12 = .int .i64 m ∧ st.fr 13 = .ref 0 (na + 1) 0 (na + 1) ∧ st.fr 14 = natS V ∧ st.fr 15 = .int .i64 ((n + 2 : Nat) : Int) ∧ st.fr 16 = .ref 1 M 0 M ∧ st.fr 17 = .int .i64 j ∧
          st.h 0 = ⟨2, natA .i64 us, true, true, true⟩ ∧ st.h 1 = ⟨2, natA .i64 (List.replicate (j + 1) 0 ++ qs), true, true, true⟩ ∧ ∃ d, st.fr 19 = .int .i64 d ∧ Est B9 V W d := ⟨_, rfl⟩
      refine k_join G ?_ ?_
      · simp (disch := omega) only [go_sem, Nat.reduceEqDiff, Nat.reduceBEq, ↓reduceIte, reduceCtorEq]
        clear hJ hR hF
        obtain ⟨R2, hR2⟩ : ∃ R2 : Nat × Nat → St → Prop, R2 = fun p st => st.fr 12 = .int .i64 m ∧ st.fr 13 = .ref 0 (na + 1) 0 (na + 1) ∧ st.fr 14 = natS V ∧ st.fr 15 = .int .i64 ((n + 2 : Nat) : Int) ∧ st.fr 16 = .ref 1 M 0 M ∧ st.fr 17 = .int .i64 j ∧
          st.h 0 = ⟨2, natA .i64 us, true, true, true⟩ ∧ st.h 1 = ⟨2, natA .i64 (List.replicate (j + 1) 0 ++ qs), true, true, true⟩ ∧ st.fr 19 = .int .i64 p.1 ∧ st.fr 20 = .int .i64 p.2 ∧ p.1 * top' + p.2 = x ∧ W < (p.1 + 1) * V ∧ p.1 ≤ 1000000001 ∧ p.2 < 1000000000 := ⟨_, rfl⟩
        refine k_loop R2 (fun p => p.1) (d0, r0) (by rw [hR2]; exact ⟨(by simp [upd_app, h12] <;> omega), (by simp [upd_app, h13] <;> omega), (by simp [upd_app, h14, natS] <;> omega), (by simp [upd_app, h15] <;> omega), (by simp [upd_app, h16] <;> omega), (by simp [upd_app, h17] <;> omega), hm0, hm2, (by simp [upd_app] <;> omega), (by simp [upd_app] <;> omega), hst2, hst0, hd0b, by simp only; omega⟩) ?_
        clear h12 h13 h14 h15 h16 h17 hm0 hm2 hst0 hst1 hst2 hst3 hd0 hr0 hd0b
        rintro ⟨d, r⟩ ⟨fr, h, nx⟩ hst J2 hJ2
        rw [hR2] at hst
        obtain ⟨h12, h13, h14, h15, h16, h17, hm0, hm2, h19, h20, q1, q2, q3, q4⟩ := hst
        simp only [natS] at h12 h13 h14 h15 h16 h17 hm0 hm2 h19 h20 q1 q2 q3 q4
        have key : 1000000000 ≤ d ∨ r * 1000000000 + u3 < d * next' → 0 < d ∧ ((d : Int) - 1 = ((d - 1 : Nat) : Int)) ∧ (∀ st : St, st.fr 12 = .int .i64 m → st.fr 13 = .ref 0 (na + 1) 0 (na + 1) → st.fr 14 = natS V → st.fr 15 = .int .i64 ((n + 2 : Nat) : Int) → st.fr 16 = .ref 1 M 0 M → st.fr 17 = .int .i64 j →
            st.h = h → st.fr 19 = .int .i64 ((d - 1 : Nat) : Int) → st.fr 20 = .int .i64 ((r + top' : Nat) : Int) → r + top' < 1000000000 → J2 st) ∧ (1000000000 ≤ r + top' → Est B9 V W (d - 1)) := by
          intro hc
          rw [← hB] at hc
          obtain ⟨p1, p2, p3⟩ := hD.less q1 hc
          refine ⟨p1, by omega, fun st r12 r13 r14 r15 r16 r17 rh r19 r20 hr => hJ2 (d - 1, r + top') st ?_ (by simp only; omega), fun hr => ?_⟩
          · rw [hR2]; exact ⟨r12, r13, r14, r15, r16, r17, by rw [rh]; exact hm0, by rw [rh]; exact hm2, r19, r20, p3, p2, by simp only; omega, hr⟩
          · refine hD.early p3 p2 ?_ (by rw [hB]; exact hr)
            rcases Nat.lt_or_ge B9 d with h' | h'
            · have := hD.small q1 h'; rw [hB] at this; omega
            · omega
        have fin : d < 1000000000 → d * next' ≤ r * 1000000000 + u3 → Est B9 V W d := fun a b => hD.done q1 q2 (by rw [hB]; exact a) (by rw [hB]; exact b)
        clear hJ2 hR2 q1 q2 hD hN hK
        obtain ⟨z, hz⟩ : ∃ z, d * next' = z := ⟨_, rfl⟩
        rw [hz] at key fin
        by_cases hdB : 1000000000 ≤ d
        · obtain ⟨p1, p2, p3, p4⟩ := key (.inl hdB)
          by_cases hr : 1000000000 ≤ r + top'
          · simp (disch := omega) only [go_sem, Nat.reduceEqDiff, Nat.reduceBEq, ↓reduceIte, reduceCtorEq, h12, h13, h14, h15, h16, h17, h19, h20, p2, e1, hVl, natA_length, ht1]
            rw [hG]; exact ⟨(by simp [upd_app, h12] <;> omega), (by simp [upd_app, h13] <;> omega), (by simp [upd_app, h14, natS] <;> omega), (by simp [upd_app, h15] <;> omega), (by simp [upd_app, h16] <;> omega), (by simp [upd_app, h17] <;> omega), hm0, hm2, d - 1, (by simp [upd_app] <;> omega), p4 hr⟩
          · simp (disch := omega) only [go_sem, Nat.reduceEqDiff, Nat.reduceBEq, ↓reduceIte, reduceCtorEq, h12, h13, h14, h15, h16, h17, h19, h20, p2, e1, hVl, natA_length, ht1]
            exact p3 _ (by simp [upd_app, h12] <;> omega) (by simp [upd_app, h13] <;> omega) (by simp [upd_app, h14, natS] <;> omega) (by simp [upd_app, h15] <;> omega) (by simp [upd_app, h16] <;> omega) (by simp [upd_app, h17] <;> omega) rfl (by simp [upd_app] <;> omega) (by simp [upd_app] <;> omega) (by omega)
        · have hzb : z ≤ 999999999 * 999999999 := by rw [← hz]; exact Nat.mul_le_mul (by omega) (by omega)
          by_cases hcc : r * 1000000000 + u3 < z
          · obtain ⟨p1, p2, p3, p4⟩ := key (.inr hcc)
            by_cases hr : 1000000000 ≤ r + top'
            · simp (disch := omega) only [go_sem, Nat.reduceEqDiff, Nat.reduceBEq, ↓reduceIte, reduceCtorEq, h12, h13, h14, h15, h16, h17, h19, h20, p2, e1, e2, e5, hVl, natA_length, ht1, ht2, hm0, hul, g5, hz]
              rw [hG]; exact ⟨(by simp [upd_app, h12] <;> omega), (by simp [upd_app, h13] <;> omega), (by simp [upd_app, h14, natS] <;> omega), (by simp [upd_app, h15] <;> omega), (by simp [upd_app, h16] <;> omega), (by simp [upd_app, h17] <;> omega), hm0, hm2, d - 1, (by simp [upd_app] <;> omega), p4 hr⟩
            · simp (disch := omega) only [go_sem, Nat.reduceEqDiff, Nat.reduceBEq, ↓reduceIte, reduceCtorEq, h12, h13, h14, h15, h16, h17, h19, h20, p2, e1, e2, e5, hVl, natA_length, ht1, ht2, hm0, hul, g5, hz]
              exact p3 _ (by simp [upd_app, h12] <;> omega) (by simp [upd_app, h13] <;> omega) (by simp [upd_app, h14, natS] <;> omega) (by simp [upd_app, h15] <;> omega) (by simp [upd_app, h16] <;> omega) (by simp [upd_app, h17] <;> omega) rfl (by simp [upd_app] <;> omega) (by simp [upd_app] <;> omega) (by omega)
          · simp (disch := omega) only [go_sem, Nat.reduceEqDiff, Nat.reduceBEq, ↓reduceIte, reduceCtorEq, h12, h13, h14, h15, h16, h17, h19, h20, e1, e2, e5, hVl, natA_length, ht1, ht2, hm0, hul, g5, hz]
            rw [hG]; exact ⟨(by simp [upd_app, h12] <;> omega), (by simp [upd_app, h13] <;> omega), (by simp [upd_app, h14, natS] <;> omega), (by simp [upd_app, h15] <;> omega), (by simp [upd_app, h16] <;> omega), (by simp [upd_app, h17] <;> omega), hm0, hm2, d, (by simp [upd_app, h19] <;> omega), fin (by omega) (by omega)⟩
      clear h12 h13 h14 h15 h16 h17 hm0 hm2 hst0 hst1 hst2 hst3 hd0 hr0 hd0b
      rintro ⟨fr, h, nx⟩ hst
      rw [hG] at hst
      obtain ⟨h12, h13, h14, h15, h16, h17, hm0, hm2, d, h19, hE⟩ := hst
      simp only [natS] at h12 h13 h14 h15 h16 h17 hm0 hm2 h19
      obtain ⟨w1, w2, w3, w4, w5⟩ := hK.win hN
      have hlj : (us.take j).length = j := by simp; omega
      have hdlt := hE.lt
      have hdlow := hE.low
      have hV0 := hN.pos
      have hdB2 : d < 1000000000 := by rw [← hB]; exact hdlt
      have hdm := Nat.div_add_mod' W V
      have e7 : (List.replicate (j + 1) 0 ++ qs).length = M := by have := hK.qlen; simp; omega
      have e8 : (List.replicate (j + 1) 0 ++ qs)[j]? = some 0 := by rw [List.getElem?_append_left (by simp), List.getElem?_replicate, if_pos (by omega)]
      have hTO := s_TakeOff (fr := fr) (h := h) (nx := nx) (id := 0) (n := n) (m := na + 1) (pre := us.take j) (ws := (us.drop j).take (n + 3)) (post := us.drop (j + (n + 3))) V d (by rw [← split3]; exact hm0) (by rw [← split3]; exact hul) w2 hVl w1 (by omega) hdlt (by rw [hW]; exact hdlow)
      rw [hW, hlj] at hTO
      by_cases hover : W < d * V
      · obtain ⟨p1, p2, p3, p4⟩ := hE.over hV0 hover
        have hr : W + V - d * V = W % V := by rw [p3, p2]; omega
        have hK' := hK.step hN (q := d - 1) (r := W % V) (by rw [hW]; exact p2) (by rw [hW])
        have hd1 : (d : Int) - 1 = ((d - 1 : Nat) : Int) := by omega
        have hdec : decide (W < d * V) = true := by simpa using hover
        rw [hdec, offA, if_pos hover] at hTO
        obtain ⟨Y, hY⟩ : ∃ Y, W + B9 ^ (n + 2) - d * V = Y := ⟨_, rfl⟩
        rw [hY] at hTO
        have hYlt : Y < B9 ^ (n + 2) := off_lt hover hY
        have hYge : B9 ^ (n + 2) ≤ Y + V ∧ Y + V - B9 ^ (n + 2) = W % V := off_ge hdlow hr hover hN.lt hY
        have hPB := s_PutBack (ex := true) (gr := true) (fr := fun _ => .undef) (h := upd h 0 ⟨2, natA .i64 (us.take j) ++ (natA .i64 (padL B9 (n + 2) Y) ++ [.int .i64 (-1)]) ++ natA .i64 (us.drop (j + (n + 3))), true, true, true⟩) (nx := nx) (id := 0) (n := n) (m := na + 1) (pre := us.take j) (ws := padL B9 (n + 2) Y) (post := us.drop (j + (n + 3))) V
          (by simp [upd_app]) (by simp; omega) (pad_lt B9_gt) hVl (pad_len B9_gt hYlt) (by omega) (by rw [pad_val B9_gt]; exact hYge.1)
        rw [pad_val B9_gt, hYge.2, hlj] at hPB
        have hupd : ∀ z w : Blk, upd (upd h 0 z) 0 w = upd h 0 w := by intro z w; funext j; simp only [upd_app]; split <;> rfl
        rw [hupd] at hPB
        have key : ∀ st : St, st.fr 12 = .int .i64 m → st.fr 13 = .ref 0 (na + 1) 0 (na + 1) → st.fr 14 = natS V → st.fr 15 = .int .i64 ((n + 2 : Nat) : Int) → st.fr 16 = .ref 1 M 0 M → st.fr 17 = .int .i64 ((j : Int) - 1) →
            st.h 0 = ⟨2, natA .i64 (us.take j ++ padL B9 (n + 3) (W % V) ++ us.drop (j + (n + 3))), true, true, true⟩ → st.h 1 = ⟨2, natA .i64 (List.replicate j 0 ++ (d - 1) :: qs), true, true, true⟩ → J st :=
            fun st r12 r13 r14 r15 r16 r17 rh0 rh2 => hJ (j, us.take j ++ padL B9 (n + 3) (W % V) ++ us.drop (j + (n + 3)), (d - 1) :: qs) st (by rw [hR]; exact ⟨r12, r13, r14, r15, r16, r17, rh0, rh2, hK'⟩) (by simp only; omega)
        clear hJ hover hdm p2 p3 p4 hE hdlow hdlt hR hF hD hK hK' w1 w2 w3 w4 w5 hYlt hYge hr hY
        simp (disch := omega) only [go_sem, Nat.reduceEqDiff, Nat.reduceBEq, ↓reduceIte, reduceCtorEq, h12, h13, h14, h15, h16, h17, h19]
        refine x_callI (hTO.re _) c_TakeOff (by simp [evA, upd_app, natS]) (.inl rfl) ?_
        simp (disch := omega) only [go_sem, Nat.reduceEqDiff, Nat.reduceBEq, ↓reduceIte, reduceCtorEq, h12, h13, h14, h15, h16, h17, h19, hd1]
        refine x_callI (hPB.re _) c_PutBack (by simp [evA, upd_app, natS, h13, h14, h17]) (.inl rfl) ?_
        simp (disch := omega) only [go_sem, Nat.reduceEqDiff, Nat.reduceBEq, ↓reduceIte, reduceCtorEq, h12, h13, h14, h15, h16, h17, h19, hm2, e7, e8]
        exact key _ (by simp [upd_app, h12] <;> omega) (by simp [upd_app, h13] <;> omega) (by simp [upd_app, h14, natS] <;> omega) (by simp [upd_app, h15] <;> omega) (by simp [upd_app, h16] <;> omega) (by simp [upd_app] <;> omega) (by simp [upd_app]) (by simp only [upd_app, ↓reduceIte, replicate_set])
      · have hq := hE.right hV0 (by omega)
        have hr : W - d * V = W % V := by rw [hq]; omega
        have hK' := hK.step hN (q := d) (r := W % V) (by rw [hW]; exact hq) (by rw [hW])
        have hdec : decide (W < d * V) = false := by simpa using hover
        rw [hdec, offA, if_neg hover, hr, natA_append, natA_append] at hTO
        have key : ∀ st : St, st.fr 12 = .int .i64 m → st.fr 13 = .ref 0 (na + 1) 0 (na + 1) → st.fr 14 = natS V → st.fr 15 = .int .i64 ((n + 2 : Nat) : Int) → st.fr 16 = .ref 1 M 0 M → st.fr 17 = .int .i64 ((j : Int) - 1) →
            st.h 0 = ⟨2, natA .i64 (us.take j ++ padL B9 (n + 3) (W % V) ++ us.drop (j + (n + 3))), true, true, true⟩ → st.h 1 = ⟨2, natA .i64 (List.replicate j 0 ++ d :: qs), true, true, true⟩ → J st :=
            fun st r12 r13 r14 r15 r16 r17 rh0 rh2 => hJ (j, us.take j ++ padL B9 (n + 3) (W % V) ++ us.drop (j + (n + 3)), d :: qs) st (by rw [hR]; exact ⟨r12, r13, r14, r15, r16, r17, rh0, rh2, hK'⟩) (by simp only; omega)
        clear hJ hover hdm hq hE hdlow hdlt hR hF hD hK hK' w1 w2 w3 w4 w5 hr
        simp (disch := omega) only [go_sem, Nat.reduceEqDiff, Nat.reduceBEq, ↓reduceIte, reduceCtorEq, h12, h13, h14, h15, h16, h17, h19]
        refine x_callI (hTO.re _) c_TakeOff (by simp [evA, upd_app, natS]) (.inl rfl) ?_
        simp (disch := omega) only [go_sem, Nat.reduceEqDiff, Nat.reduceBEq, ↓reduceIte, reduceCtorEq, h12, h13, h14, h15, h16, h17, h19, hm2, e7, e8]
        exact key _ (by simp [upd_app, h12] <;> omega) (by simp [upd_app, h13] <;> omega) (by simp [upd_app, h14, natS] <;> omega) (by simp [upd_app, h15] <;> omega) (by simp [upd_app, h16] <;> omega) (by simp [upd_app] <;> omega) (by simp [upd_app]) (by simp only [upd_app, ↓reduceIte, replicate_set])
  rintro ⟨fr, h, nx⟩ hst
  rw [hF] at hst
  obtain ⟨h12, h13, h16, us, qs, hm0, hm2, hK⟩ := hst
  simp only at h12 h13 h16 hm0 hm2
  obtain ⟨z1, z2⟩ := hK.done hN
  have hul : us.length = na + 1 := by rw [hK.len, hMn]
  have hqlen : qs.length = M := by have := hK.qlen; omega
  have husd := hK.lt
  have hqd := hK.qlt
  rw [f1] at z1
  rw [f2] at z2
  have htz : trimZ (us.take (na + 1)) = enc B9 (a % b * m) := by rw [List.take_of_length_le (by omega), trimZ_enc B9_gt husd, z2]
  have hqt : trimZ (qs.take M) = enc B9 (a / b) := by rw [List.take_of_length_le (by omega), trimZ_enc B9_gt hqd, z1]
  have hrl : (enc B9 (a % b * m)).length ≤ na + 1 := by
    rw [← z2]
    exact enc_len_le B9_gt (by rw [← hul]; exact val_lt husd)
  have hSD := s_ShortDiv hm' (a % b * m) m (by omega) m3 hmB
  rw [Nat.mul_div_cancel _ m3] at hSD
  simp (disch := omega) only [go_sem, Nat.reduceEqDiff, Nat.reduceBEq, ↓reduceIte, reduceCtorEq, h12, h13, h16]
  refine x_callF (s_Trim hm' (us.take (na + 1)) (by simp; omega)) c_Trim (by simp [evA, upd_app]) (snapL_one (id := 0) (st := ⟨_, _, _⟩) hm0 hul (Nat.le_refl _)) (by simp [hm0]) (by simp [AV.pure, AV.pureL]) (by simp [AV.pure, AV.pureL]) (by simp) ?_
  rw [htz]
  simp (disch := omega) only [go_sem, Nat.reduceEqDiff, Nat.reduceBEq, ↓reduceIte, reduceCtorEq, h12, h13, h16]
  refine x_callP (hSD) c_ShortDiv (by simp [evA, upd_app, ofVal, ofCell, natS]) (by simp [AV.pure, AV.pureL]) (by simp [AV.pure, AV.pureL]) ?_
  simp (disch := omega) only [go_sem, Nat.reduceEqDiff, Nat.reduceBEq, ↓reduceIte, reduceCtorEq, h16]
  refine x_callF (s_Trim hm' (qs.take M) (by simp; omega)) c_Trim (by simp [evA, upd_app]) (snapL_one (id := 1) (st := ⟨_, _, _⟩) (by simp [eatH_one]; exact hm2) hqlen (Nat.le_refl _)) (by simp [eatH_one, hm2]) (by simp [AV.pure, AV.pureL]) (by simp [AV.pure, AV.pureL]) (by simp) ?_
  rw [hqt]
  simp (disch := omega) only [go_sem, Nat.reduceEqDiff, Nat.reduceBEq, ↓reduceIte, reduceCtorEq]
  rw [← hQ]
  exact post_two (.inl rfl) rfl (by simp [upd_app, natS] <;> omega) (by simp [upd_app, natS] <;> omega) (by simp) (by simp)
section
open Go Go.RowKit
theorem callOk_of_below {P : Program} {f : FuncId} {args : List AV} {vals : List Value} {r : AV} {v : Value} (ha : ∀ E vs L, ownRL P E args vs L → vs = vals ∧ L = []) (hr : ∀ E, ownR P E r v [])
  (h : ∀ w : World, Calls P f vals.toArray w fun e w' => e = .returned v ∧ Below w.heap.size w w') : CallOk P f args r [] := by
 intro w I vs L hI hown hnd
 obtain ⟨rfl, rfl⟩ := ha _ _ _ hown
 refine (h w).mono ?_
 rintro e w' ⟨rfl, hb⟩
 refine ⟨v, I, [], rfl, ⟨hb.os, hb.tape, hb.output, hb.size, fun b hb' _ => hb.block b hb', by simp⟩, fun b hb' => hb', fun b hb' => .inl hb', fun b hb' => Nat.lt_of_lt_of_le (hI.lt b hb') hb.size, hr _, by simp, by simp, .inl rfl⟩
theorem own_str {P : Program} {E : Env} {s : List UInt8} {v : Value} {L : List OLoc} (h : ownR P E (.str s) v L) : v = .string ⟨s.toArray⟩ ∧ L = [] := by simp only [ownR, rep] at h; exact ⟨h.2, h.1⟩
theorem own_int {P : Program} {E : Env} {k : IntKind} {n : Int} {v : Value} {L : List OLoc} (h : ownR P E (.int k n) v L) : v = .int k n ∧ L = [] := by simp only [ownR, rep] at h; exact ⟨h.2, h.1⟩
theorem ownL_cons {P : Program} {E : Env} {x : AV} {xs : List AV} {v : Value} {us : List Value} (hx : ∀ u L, ownR P E x u L → u = v ∧ L = []) (hxs : ∀ vs L, ownRL P E xs vs L → vs = us ∧ L = []) : ∀ vs L, ownRL P E (x :: xs) vs L → vs = v :: us ∧ L = [] := by
 intro vs L h
 simp only [ownRL] at h
 obtain ⟨u, us', L1, L2, rfl, rfl, h1, h2⟩ := h
 obtain ⟨rfl, rfl⟩ := hx _ _ h1
 obtain ⟨rfl, rfl⟩ := hxs _ _ h2
 exact ⟨rfl, rfl⟩
theorem ownL_nil {P : Program} {E : Env} : ∀ vs L, ownRL P E [] vs L → vs = [] ∧ L = [] := by intro vs L h; simpa [ownRL] using h
def findB (m : UInt8) : List UInt8 → Option Nat
  | [] => none
  | c :: cs => if c = m then some 0 else (findB m cs).map (· + 1)
def findI (m : UInt8) (s : List UInt8) : Int := match findB m s with | some i => i | none => -1
theorem findI_eq (m : UInt8) (s : List UInt8) : Lib.indexByte s m = findI m s := by
  induction s with
  | nil => rfl
  | cons c cs ih =>
    unfold Lib.indexByte
    rw [ih]
    unfold findI
    by_cases h : c = m
    · simp [h, findB]
    · rw [show (c == m) = false by simpa using h]
      simp only [findB, if_neg h, Bool.false_eq_true, if_false]
      cases findB m cs with
      | none => simp
      | some i => simp <;> omega
theorem findB_lt {m : UInt8} {s : List UInt8} {i : Nat} (h : findB m s = some i) : i < s.length ∧ s[i]? = some m ∧ m ∉ s.take i := by
  induction s generalizing i with
  | nil => simp [findB] at h
  | cons c cs ih =>
    simp only [findB] at h
    by_cases hc : c = m
    · rw [if_pos hc] at h; cases h; simp [hc]
    · rw [if_neg hc] at h
      obtain ⟨j, hj, rfl⟩ := Option.map_eq_some_iff.1 h
      obtain ⟨a, b, c'⟩ := ih hj
      exact ⟨by simp only [List.length_cons]; omega, by simpa using b, by simp only [List.take_succ_cons, List.mem_cons, not_or]; exact ⟨fun e => hc e.symm, c'⟩⟩
theorem findB_none {m : UInt8} {s : List UInt8} (h : findB m s = none) : m ∉ s := by
  induction s with
  | nil => simp
  | cons c cs ih =>
    simp only [findB] at h
    by_cases hc : c = m
    · rw [if_pos hc] at h; cases h
    · rw [if_neg hc] at h
      simp at h
      simp [ih h]; exact fun e => hc e.symm
set_option maxHeartbeats 1000000 in
set_option maxRecDepth 100000 in
theorem w_IndexByte (s : ByteArray) (c : Int) (w : World) : Calls Tryz.prog 99 #[.string s, .int .u8 c] w fun e w' => e = .returned (.int .i64 (Lib.indexByte s.data.toList c.toNat.toUInt8)) ∧ w' = w := by
 go_enter Tryz.func99, Tryz.ntmps99
 go_wp2
 rw [run_callFunc_extern Tryz.func110 (by kernel_rfl) (by kernel_rfl) (by kernel_rfl) (e := Extern.BytealgIndexByte.indexByte) (by kernel_rfl), Lib.run_indexByteString]
 simp only [Result.andThen]
 rw [Oper.upon_value]
 go_wp2
 go_ret
 exact ⟨rfl, rfl⟩
theorem c_IndexByte : callable Tryz.prog 99 = true := by kernel_rfl
theorem g_IndexByte (s : List UInt8) (m : UInt8) : CallOk Tryz.prog 99 [.str s, .int .u8 m.toNat] (.int .i64 (findI m s)) [] := by
 refine callOk_of_below (vals := [.string ⟨s.toArray⟩, .int .u8 m.toNat]) (v := .int .i64 (findI m s)) (fun E => ownL_cons (fun _ _ => own_str) (ownL_cons (fun _ _ => own_int) ownL_nil)) (fun E => by simp [ownR, rep]) fun w => ?_
 refine (w_IndexByte ⟨s.toArray⟩ m.toNat w).mono ?_
 rintro e w' ⟨rfl, rfl⟩
 refine ⟨?_, Below.refl _ _⟩
 simp [findI_eq]
theorem c_HasPrefix : callable Tryz.prog 92 = true := by kernel_rfl
theorem c_sCutPrefix : callable Tryz.prog 82 = true := by kernel_rfl
theorem c_CutPrefix : callable Tryz.prog 70 = true := by kernel_rfl
theorem c_Index : callable Tryz.prog 91 = true := by kernel_rfl
theorem c_sCut : callable Tryz.prog 81 = true := by kernel_rfl
theorem c_Cut : callable Tryz.prog 69 = true := by kernel_rfl
def headB (m : UInt8) (s : List UInt8) : Bool := s.head? == some m
theorem g_HasPrefix (s : List UInt8) (m : UInt8) (hs : s.length < 9223372036854775808) : CallOk Tryz.prog 92 [.str s, .str [m]] (.bool (headB m s)) [] := by
 (refine callOk_of_wpc (W := fun _ => false) false hm' Tryz.func92 rfl (by kernel_rfl) (Nat.le_of_ble_eq_true rfl) (go_start ?_); generalize hQ : Post Tryz.prog Tryz.f92 _ _ _ _ _ = Q; simp only [stIn, matL, matA, st00])
 cases s with
 | nil =>
  simp (disch := omega) only [go_sem, Nat.reduceEqDiff, Nat.reduceBEq, ↓reduceIte, reduceCtorEq, List.length_cons, List.length_nil]
  rw [← hQ]
  exact post_one (.inl rfl) rfl (by simp [upd_app, headB] <;> omega) rfl
 | cons c cs =>
  simp only [List.length_cons] at hs
  simp (disch := omega) only [go_sem, Nat.reduceEqDiff, Nat.reduceBEq, ↓reduceIte, reduceCtorEq, List.length_cons, List.length_nil, List.take_succ_cons, List.take_zero]
  rw [← hQ]
  refine post_one (.inl rfl) rfl (by simp [upd_app, headB] <;> omega) rfl
theorem g_sCutPrefix (s : List UInt8) (m : UInt8) (hs : s.length < 9223372036854775808) : CallOk Tryz.prog 82 [.str s, .str [m]] (.tup [.str (if headB m s = true then s.tail else s), .bool (headB m s)]) [] := by
 (refine callOk_of_wpc (W := fun _ => false) false hm' Tryz.func82 rfl (by kernel_rfl) (Nat.le_of_ble_eq_true rfl) (go_start ?_); generalize hQ : Post Tryz.prog Tryz.f82 _ _ _ _ _ = Q; simp only [stIn, matL, matA, st00])
 simp (disch := omega) only [go_sem, Nat.reduceEqDiff, Nat.reduceBEq, ↓reduceIte, reduceCtorEq]
 refine x_callP (g_HasPrefix s m hs) c_HasPrefix (by simp [evA, upd_app, ofVal, ofCell]) (by simp [AV.pure, AV.pureL]) (by simp [AV.pure, AV.pureL]) ?_
 cases hh : headB m s with
 | false =>
  simp (disch := omega) only [go_sem, Nat.reduceEqDiff, Nat.reduceBEq, ↓reduceIte, reduceCtorEq]
  rw [← hQ, hh]
  exact post_two (.inl rfl) rfl (by simp [upd_app] <;> omega) (by simp [upd_app] <;> omega) rfl rfl
 | true =>
  cases s with
  | nil => simp [headB] at hh
  | cons c cs =>
   simp only [List.length_cons] at hs
   simp (disch := omega) only [go_sem, Nat.reduceEqDiff, Nat.reduceBEq, ↓reduceIte, reduceCtorEq, List.length_cons, List.length_nil]
   rw [← hQ, hh]
   exact post_two (.inl rfl) rfl (by simp [upd_app] <;> omega) (by simp [upd_app] <;> omega) rfl rfl
theorem g_CutPrefix (s : List UInt8) (m : UInt8) (hs : s.length < 9223372036854775808) : CallOk Tryz.prog 70 [.str s, .str [m]] (.tup [.str (if headB m s = true then s.tail else s), .bool (headB m s)]) [] := by
 (refine callOk_of_wpc (W := fun _ => false) false hm' Tryz.func70 rfl (by kernel_rfl) (Nat.le_of_ble_eq_true rfl) (go_start ?_); generalize hQ : Post Tryz.prog Tryz.f70 _ _ _ _ _ = Q; simp only [stIn, matL, matA, st00])
 simp (disch := omega) only [go_sem, Nat.reduceEqDiff, Nat.reduceBEq, ↓reduceIte, reduceCtorEq]
 refine x_callP (g_sCutPrefix s m hs) c_sCutPrefix (by simp [evA, upd_app, ofVal, ofCell]) (by simp [AV.pure, AV.pureL]) (by simp [AV.pure, AV.pureL]) ?_
 simp (disch := omega) only [go_sem, Nat.reduceEqDiff, Nat.reduceBEq, ↓reduceIte, reduceCtorEq]
 rw [← hQ]
 exact post_two (.inl rfl) rfl (by simp [upd_app] <;> omega) (by simp [upd_app] <;> omega) rfl rfl
theorem g_Index (s : List UInt8) (m : UInt8) (hs : s.length < 9223372036854775808) : CallOk Tryz.prog 91 [.str s, .str [m]] (.int .i64 (findI m s)) [] := by
  (refine callOk_of_wpc (W := fun _ => false) false hm' Tryz.func91 rfl (by kernel_rfl) (Nat.le_of_ble_eq_true rfl) (go_start ?_); generalize hQ : Post Tryz.prog Tryz.f91 _ _ _ _ _ = Q; simp only [stIn, matL, matA, st00])
  by_cases hms : s = [m]
  · subst hms
    have e : ([m] == [m]) = true := by simp
    simp (disch := omega) only [go_sem, Nat.reduceEqDiff, Nat.reduceBEq, ↓reduceIte, reduceCtorEq, List.length_cons, List.length_nil, e]
    rw [← hQ]
    exact post_one (.inl rfl) rfl (by simp [upd_app, findI, findB] <;> omega) rfl
  · have e : ([m] == s) = false := by simpa using fun h : [m] = s => hms h.symm
    simp (disch := omega) only [go_sem, Nat.reduceEqDiff, Nat.reduceBEq, ↓reduceIte, reduceCtorEq, List.length_cons, List.length_nil, e]
    have hb : [m][Int.toNat 0]? = some m := rfl
    simp (disch := omega) only [go_sem, Nat.reduceEqDiff, Nat.reduceBEq, ↓reduceIte, reduceCtorEq, List.length_cons, List.length_nil, hb]
    refine x_callP (g_IndexByte s m) c_IndexByte (by simp [evA, upd_app, ofVal, ofCell]) (by simp [AV.pure, AV.pureL]) (by simp [AV.pure, AV.pureL]) ?_
    simp (disch := omega) only [go_sem, Nat.reduceEqDiff, Nat.reduceBEq, ↓reduceIte, reduceCtorEq]
    rw [← hQ]
    exact post_one (.inl rfl) rfl (by simp [upd_app] <;> omega) rfl
def cutV (m : UInt8) (s : List UInt8) : AV := match findB m s with | some i => .tup [.str (s.take i), .str (s.drop (i + 1)), .bool true] | none => .tup [.str s, .str [], .bool false]
theorem cutV_pure (m : UInt8) (s : List UInt8) : (cutV m s).pure = true := by unfold cutV; split <;> rfl
theorem g_sCut (s : List UInt8) (m : UInt8) (hs : s.length < 9223372036854775808) : CallOk Tryz.prog 81 [.str s, .str [m]] (cutV m s) [] := by
 (refine callOk_of_wpc (W := fun _ => false) false hm' Tryz.func81 rfl (by kernel_rfl) (Nat.le_of_ble_eq_true rfl) (go_start ?_); generalize hQ : Post Tryz.prog Tryz.f81 _ _ _ _ _ = Q; simp only [stIn, matL, matA, st00])
 simp (disch := omega) only [go_sem, Nat.reduceEqDiff, Nat.reduceBEq, ↓reduceIte, reduceCtorEq]
 refine x_callP (g_Index s m hs) c_Index (by simp [evA, upd_app, ofVal, ofCell]) (by simp [AV.pure, AV.pureL]) (by simp [AV.pure, AV.pureL]) ?_
 cases hf : findB m s with
 | none =>
  have e : findI m s = -1 := by simp [findI, hf]
  have e2 : cutV m s = .tup [.str s, .str [], .bool false] := by simp [cutV, hf]
  simp (disch := omega) only [go_sem, Nat.reduceEqDiff, Nat.reduceBEq, ↓reduceIte, reduceCtorEq, e]
  rw [← hQ, e2]
  exact post_three (.inl rfl) rfl (by simp [upd_app] <;> omega) (by simp [upd_app] <;> omega) (by simp [upd_app] <;> omega) rfl rfl rfl
 | some i =>
  have e : findI m s = i := by simp [findI, hf]
  have e2 : cutV m s = .tup [.str (s.take i), .str (s.drop (i + 1)), .bool true] := by simp [cutV, hf]
  have hi := (findB_lt hf).1
  simp (disch := omega) only [go_sem, Nat.reduceEqDiff, Nat.reduceBEq, ↓reduceIte, reduceCtorEq, e, List.length_cons, List.length_nil, List.take_length]
  rw [← hQ, e2]
  exact post_three (.inl rfl) rfl (by simp [upd_app] <;> omega) (by simp [upd_app] <;> omega) (by simp [upd_app] <;> omega) rfl rfl rfl
theorem g_Cut (s : List UInt8) (m : UInt8) (hs : s.length < 9223372036854775808) : CallOk Tryz.prog 69 [.str s, .str [m]] (cutV m s) [] := by
 (refine callOk_of_wpc (W := fun _ => false) false hm' Tryz.func69 rfl (by kernel_rfl) (Nat.le_of_ble_eq_true rfl) (go_start ?_); generalize hQ : Post Tryz.prog Tryz.f69 _ _ _ _ _ = Q; simp only [stIn, matL, matA, st00])
 simp (disch := omega) only [go_sem, Nat.reduceEqDiff, Nat.reduceBEq, ↓reduceIte, reduceCtorEq]
 refine x_callP (g_sCut s m hs) c_sCut (by simp [evA, upd_app]) (by simp [AV.pure, AV.pureL]) (cutV_pure m s) ?_
 unfold cutV at hQ ⊢
 cases hf : findB m s with
 | none =>
  simp only [hf] at hQ
  simp (disch := omega) only [go_sem, Nat.reduceEqDiff, Nat.reduceBEq, ↓reduceIte, reduceCtorEq]
  rw [← hQ]
  exact post_three (.inl rfl) rfl (by simp [upd_app] <;> omega) (by simp [upd_app] <;> omega) (by simp [upd_app] <;> omega) rfl rfl rfl
 | some i =>
  simp only [hf] at hQ
  simp (disch := omega) only [go_sem, Nat.reduceEqDiff, Nat.reduceBEq, ↓reduceIte, reduceCtorEq]
  rw [← hQ]
  exact post_three (.inl rfl) rfl (by simp [upd_app] <;> omega) (by simp [upd_app] <;> omega) (by simp [upd_app] <;> omega) rfl rfl rfl
end
section
open Go.Shelf
def laysPu14_ren : Go.Shelf.Ren := ⟨fun | 14 => 83 | 16 => 93 | 17 => 94 | 19 => 103 | 20 => 104 | 21 => 105 | 22 => 106 | 23 => 107 | 24 => 108 | 25 => 112 | 27 => 114 | 26 => 113 | 28 => 115 | 29 => 116 | 30 => 117 | 31 => 118 | 32 => 119 | 33 => 120 | 35 => 122 | 34 => 121 | 36 => 123 | 37 => 124 | 38 => 125 | 39 => 126 | 40 => 127 | n => n, fun | 9 => 9 | 3 => 3 | 22 => 97 | 24 => 123 | 25 => 124 | 4 => 4 | 34 => 145 | 5 => 5 | 36 => 115 | 37 => 147 | 0 => 0 | 39 => 148 | 21 => 21 | 44 => 155 | 47 => 158 | 50 => 161 | 48 => 159 | 2 => 2 | 52 => 163 | 55 => 166 | 59 => 169 | 60 => 114 | 20 => 20 | 61 => 170 | 65 => 173 | 66 => 174 | 67 => 175 | n => n, fun | 0 => 1 | 1 => 2 | 2 => 3 | 3 => 4 | 4 => 5 | n => n⟩
theorem laysPu14 : Go.Proofs.LaysPu.n14 Tryz.prog laysPu14_ren := {
 mixed := by kernel_rfl
 f14 := Tryz.func83.trans (congrArg some (by kernel_rfl))
 f16 := Tryz.func93.trans (congrArg some (by kernel_rfl))
 f17 := Tryz.func94.trans (congrArg some (by kernel_rfl))
 f19 := Tryz.func103.trans (congrArg some (by kernel_rfl))
 f20 := Tryz.func104.trans (congrArg some (by kernel_rfl))
 f21 := Tryz.func105.trans (congrArg some (by kernel_rfl))
 f22 := Tryz.func106.trans (congrArg some (by kernel_rfl))
 f23 := Tryz.func107.trans (congrArg some (by kernel_rfl))
 f24 := Tryz.func108.trans (congrArg some (by kernel_rfl))
 f25 := Tryz.func112.trans (congrArg some (by kernel_rfl))
 f26 := Tryz.func113.trans (congrArg some (by kernel_rfl))
 f27 := Tryz.func114.trans (congrArg some (by kernel_rfl))
 f28 := Tryz.func115.trans (congrArg some (by kernel_rfl))
 f29 := Tryz.func116.trans (congrArg some (by kernel_rfl))
 f30 := Tryz.func117.trans (congrArg some (by kernel_rfl))
 f31 := Tryz.func118.trans (congrArg some (by kernel_rfl))
 f32 := Tryz.func119.trans (congrArg some (by kernel_rfl))
 f33 := Tryz.func120.trans (congrArg some (by kernel_rfl))
 f34 := Tryz.func121.trans (congrArg some (by kernel_rfl))
 f35 := Tryz.func122.trans (congrArg some (by kernel_rfl))
 f36 := Tryz.func123.trans (congrArg some (by kernel_rfl))
 f37 := Tryz.func124.trans (congrArg some (by kernel_rfl))
 f38 := Tryz.func125.trans (congrArg some (by kernel_rfl))
 f39 := Tryz.func126.trans (congrArg some (by kernel_rfl))
 f40 := Tryz.func127.trans (congrArg some (by kernel_rfl))
 t0 := Tryz.underlying0
 a0 := Tryz.isAgg0
 z0 := Tryz.sizeOf0
 v0 := Tryz.zeroValue0
 i0 := by kernel_rfl
 t2 := Tryz.underlying2
 a2 := Tryz.isAgg2
 z2 := Tryz.sizeOf2
 v2 := Tryz.zeroValue2
 i2 := by kernel_rfl
 t3 := Tryz.underlying3
 a3 := Tryz.isAgg3
 z3 := Tryz.sizeOf3
 v3 := Tryz.zeroValue3
 i3 := by kernel_rfl
 t4 := Tryz.underlying4
 a4 := Tryz.isAgg4
 z4 := Tryz.sizeOf4
 v4 := Tryz.zeroValue4
 i4 := by kernel_rfl
 t5 := Tryz.underlying5
 a5 := Tryz.isAgg5
 z5 := Tryz.sizeOf5
 v5 := Tryz.zeroValue5
 i5 := by kernel_rfl
 t9 := Tryz.underlying9
 a9 := Tryz.isAgg9
 z9 := Tryz.sizeOf9
 v9 := Tryz.zeroValue9
 i9 := by kernel_rfl
 t20 := Tryz.underlying20
 a20 := Tryz.isAgg20
 z20 := Tryz.sizeOf20
 v20 := Tryz.zeroValue20
 i20 := by kernel_rfl
 t21 := Tryz.underlying21
 a21 := Tryz.isAgg21
 z21 := Tryz.sizeOf21
 v21 := Tryz.zeroValue21
 i21 := by kernel_rfl
 t22 := Tryz.underlying97
 a22 := Tryz.isAgg97
 z22 := Tryz.sizeOf97
 v22 := Tryz.zeroValue97
 i22 := by kernel_rfl
 t24 := Tryz.underlying123
 a24 := Tryz.isAgg123
 z24 := Tryz.sizeOf123
 v24 := Tryz.zeroValue123
 i24 := by kernel_rfl
 t25 := Tryz.underlying124
 a25 := Tryz.isAgg124
 z25 := Tryz.sizeOf124
 v25 := Tryz.zeroValue124
 i25 := by kernel_rfl
 t34 := Tryz.underlying145
 a34 := Tryz.isAgg145
 z34 := Tryz.sizeOf145
 v34 := Tryz.zeroValue145
 i34 := by kernel_rfl
 c34 := by kernel_rfl
 t36 := Tryz.underlying115
 a36 := Tryz.isAgg115
 z36 := Tryz.sizeOf115
 v36 := Tryz.zeroValue115
 i36 := by kernel_rfl
 t37 := Tryz.underlying147
 a37 := Tryz.isAgg147
 z37 := Tryz.sizeOf147
 v37 := Tryz.zeroValue147
 i37 := by kernel_rfl
 t39 := Tryz.underlying148
 a39 := Tryz.isAgg148
 z39 := Tryz.sizeOf148
 v39 := Tryz.zeroValue148
 i39 := by kernel_rfl
 t44 := Tryz.underlying155
 a44 := Tryz.isAgg155
 z44 := Tryz.sizeOf155
 v44 := Tryz.zeroValue155
 i44 := by kernel_rfl
 t47 := Tryz.underlying158
 a47 := Tryz.isAgg158
 z47 := Tryz.sizeOf158
 v47 := Tryz.zeroValue158
 i47 := by kernel_rfl
 t48 := Tryz.underlying159
 a48 := Tryz.isAgg159
 z48 := Tryz.sizeOf159
 v48 := Tryz.zeroValue159
 i48 := by kernel_rfl
 t50 := Tryz.underlying161
 a50 := Tryz.isAgg161
 z50 := Tryz.sizeOf161
 v50 := Tryz.zeroValue161
 i50 := by kernel_rfl
 t52 := Tryz.underlying163
 a52 := Tryz.isAgg163
 z52 := Tryz.sizeOf163
 v52 := Tryz.zeroValue163
 i52 := by kernel_rfl
 t55 := Tryz.underlying166
 a55 := Tryz.isAgg166
 z55 := Tryz.sizeOf166
 v55 := Tryz.zeroValue166
 i55 := by kernel_rfl
 t59 := Tryz.underlying169
 a59 := Tryz.isAgg169
 z59 := Tryz.sizeOf169
 v59 := Tryz.zeroValue169
 i59 := by kernel_rfl
 t60 := Tryz.underlying114
 a60 := Tryz.isAgg114
 z60 := Tryz.sizeOf114
 v60 := Tryz.zeroValue114
 i60 := by kernel_rfl
 t61 := Tryz.underlying170
 a61 := Tryz.isAgg170
 z61 := Tryz.sizeOf170
 t65 := Tryz.underlying173
 a65 := Tryz.isAgg173
 z65 := Tryz.sizeOf173
 v65 := Tryz.zeroValue173
 i65 := by kernel_rfl
 t66 := Tryz.underlying174
 a66 := Tryz.isAgg174
 z66 := Tryz.sizeOf174
 v66 := Tryz.zeroValue174
 i66 := by kernel_rfl
 t67 := Tryz.underlying175
 a67 := Tryz.isAgg175
 z67 := Tryz.sizeOf175
 v67 := Tryz.zeroValue175
 i67 := by kernel_rfl
 g0 := by kernel_rfl
 m0 := by kernel_rfl
 g1 := by kernel_rfl
 m1 := by kernel_rfl
 g2 := by kernel_rfl
 m2 := by kernel_rfl
 g3 := by kernel_rfl
 m3 := by kernel_rfl
 g4 := by kernel_rfl
 m4 := by kernel_rfl }
end
section
open Go Go.RowKit
theorem c_ParseUint : callable Tryz.prog 83 = true := by kernel_rfl
def isDig (c : UInt8) : Bool := 48 ≤ c.toNat && c.toNat ≤ 57
def dval (s : List UInt8) : Nat := s.foldl (fun n c => 10 * n + (c.toNat - 48)) 0
theorem dval_from (s : List UInt8) (a : Nat) : s.foldl (fun n c => 10 * n + (c.toNat - 48)) a = a * 10 ^ s.length + dval s := by
 induction s generalizing a with
 | nil => simp [dval]
 | cons c cs ih =>
  simp only [dval, List.foldl_cons, List.length_cons]
  rw [ih, ih (10 * 0 + (c.toNat - 48)), Nat.pow_succ]
  simp only [Nat.mul_zero, Nat.zero_add, Nat.add_mul]
  have : 10 * a * 10 ^ cs.length = a * (10 ^ cs.length * 10) := by rw [Nat.mul_comm 10 a, Nat.mul_assoc, Nat.mul_comm 10]
  omega
theorem dval_append (s t : List UInt8) : dval (s ++ t) = dval s * 10 ^ t.length + dval t := by
 rw [dval, List.foldl_append, dval_from]; rfl
theorem dval_snoc (s : List UInt8) (c : UInt8) : dval (s ++ [c]) = 10 * dval s + (c.toNat - 48) := by simp [dval]
theorem dval_lt {s : List UInt8} (h : ∀ c ∈ s, isDig c = true) : dval s < 10 ^ s.length := by
 induction s with
 | nil => simp [dval]
 | cons c cs ih =>
  have hc : c.toNat - 48 ≤ 9 := by have := h c (by simp); simp [isDig] at this; omega
  have := ih fun d hd => h d (by simp [hd])
  have e := dval_append [c] cs
  have e1 : dval [c] = c.toNat - 48 := by simp [dval]
  rw [List.singleton_append] at e
  rw [e, e1, List.length_cons, Nat.pow_succ]
  have : (c.toNat - 48) * 10 ^ cs.length ≤ 9 * 10 ^ cs.length := Nat.mul_le_mul_right _ hc
  omega
theorem parse_digs : ∀ (s : List UInt8) (acc : Nat), (∀ c ∈ s, isDig c = true) → acc * 10 ^ s.length + dval s < 1000000000000000000 → Lib.parseUintM (2 ^ 64 - 1) acc s = .ok (acc * 10 ^ s.length + dval s)
 | [], acc, _, _ => by simp [Lib.parseUintM, dval]
 | c :: cs, acc, h, hlt => by
  have hc := h c (by simp)
  simp only [isDig, Bool.and_eq_true, decide_eq_true_eq] at hc
  have e := dval_append [c] cs
  have e1 : dval [c] = c.toNat - 48 := by simp [dval]
  rw [List.singleton_append, e1] at e
  have e2 : acc * 10 ^ (c :: cs).length + dval (c :: cs) = (acc * 10 + (c.toNat - 48)) * 10 ^ cs.length + dval cs := by
   rw [e, List.length_cons, Nat.pow_succ, Nat.add_mul, Nat.mul_comm (10 ^ cs.length) 10, Nat.mul_assoc]; omega
  rw [e2] at hlt ⊢
  have hp : 0 < 10 ^ cs.length := Nat.pow_pos (by omega)
  have h3 : (acc * 10 + (c.toNat - 48)) * 1 ≤ (acc * 10 + (c.toNat - 48)) * 10 ^ cs.length := Nat.mul_le_mul_left _ hp
  simp only [Lib.parseUintM]
  have hbig : ¬ 2 ^ 64 - 1 < acc * 10 + (c.toNat - 48) := by
   have : (2 : Nat) ^ 64 - 1 = 18446744073709551615 := by decide
   omega
  rw [if_pos hc, if_neg (by omega), if_neg hbig]
  exact parse_digs cs _ (fun d hd => h d (by simp [hd])) hlt
theorem g_ParseUint (s : List UInt8) (h : ∀ c ∈ s, isDig c = true) (h0 : s ≠ []) (hl : s.length ≤ 18) : CallOk Tryz.prog 83 [.str s, .int .i64 10, .int .i64 64] (.tup [.int .u64 (dval s), .undef]) [] := by
  have hlt : dval s < 1000000000000000000 := Nat.lt_of_lt_of_le (dval_lt h) (Nat.le_trans (Nat.pow_le_pow_right (by omega) hl) (by decide))
  refine callOk_of_below (vals := [.string ⟨s.toArray⟩, .int .i64 10, .int .i64 64]) (v := .tuple #[.int .u64 (dval s), .nilIface]) (fun E => ownL_cons (fun _ _ => own_str) (ownL_cons (fun _ _ => own_int) (ownL_cons (fun _ _ => own_int) ownL_nil)))
    (fun E => by simp only [ownR]; exact ⟨[.int .u64 (dval s), .nilIface], rfl, by simp only [ownRL, ownR, rep]; exact ⟨_, _, [], [], rfl, rfl, ⟨rfl, rfl⟩, _, [], [], [], rfl, rfl, rfl, rfl, rfl⟩⟩) fun w => ?_
  have hp : Lib.parseUintB 64 s = .ok (dval s) := by
    have := parse_digs s 0 h (by simpa using hlt)
    rw [Nat.zero_mul, Nat.zero_add] at this
    rw [Lib.parseUintB, if_neg h0, this]
  refine (Any.strconv_ParseUint_10_at64_ok laysPu14 ⟨s.toArray⟩ (by simp [ByteArray.size]; omega) (dval s) (by simpa using hp) w).mono ?_
  rintro e w' ⟨rfl, hw⟩
  refine ⟨rfl, ?_⟩
  rcases hw with rfl | rfl
  · exact Below.refl _ _
  · exact Lib.bytesWorld_below _ _ _
end
end Go.Proofs.YtdljcbbodihagaaGreatDoor
