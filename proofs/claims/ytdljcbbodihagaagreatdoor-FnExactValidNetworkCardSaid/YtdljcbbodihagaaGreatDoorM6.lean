/- Ground 6. -/
import Derived.Test.YtdljcbbodihagaaGreatDoorM5

set_option linter.unusedVariables false
set_option linter.unusedSimpArgs false
set_option maxRecDepth 100000
namespace Go.Proofs.YtdljcbbodihagaaGreatDoor
open Go

theorem nc_add (a b : Nat) : (a : Int) + (b : Int) = ((a + b : Nat) : Int) := by simp
theorem nc_addL (a n : Nat) : (a : Int) + (no_index (OfNat.ofNat n : Int)) = ((a + OfNat.ofNat n : Nat) : Int) := by simp
theorem nc_mul (a b : Nat) : (a : Int) * (b : Int) = ((a * b : Nat) : Int) := by simp
theorem nc_mulL (a n : Nat) : (a : Int) * (no_index (OfNat.ofNat n : Int)) = ((a * OfNat.ofNat n : Nat) : Int) := by simp
theorem nc_mulR (a n : Nat) : (no_index (OfNat.ofNat n : Int)) * (a : Int) = ((OfNat.ofNat n * a : Nat) : Int) := by simp
theorem nc_div (a b : Nat) : (a : Int).tdiv (b : Int) = ((a / b : Nat) : Int) := tdivN a b
theorem nc_divL (a n : Nat) : (a : Int).tdiv (no_index (OfNat.ofNat n : Int)) = ((a / OfNat.ofNat n : Nat) : Int) := tdivN a n
theorem nc_mod (a b : Nat) : (a : Int).tmod (b : Int) = ((a % b : Nat) : Int) := tmodN a b
theorem nc_modL (a n : Nat) : (a : Int).tmod (no_index (OfNat.ofNat n : Int)) = ((a % OfNat.ofNat n : Nat) : Int) := tmodN a n
theorem nc_sub1 (a : Nat) : ((a + 1 : Nat) : Int) - 1 = (a : Int) := by omega
theorem natA_at {k : IntKind} {xs : List Nat} {i : Nat} : (natA k xs)[i]? = (xs[i]?).map fun n : Nat => AV.int k n := by simp [natA]
theorem natA_put {k : IntKind} {xs : List Nat} {i n : Nat} : (natA k xs).set i (AV.int k n) = natA k (xs.set i n) := by simp [natA, List.map_set]
theorem wrapU32m (n : Nat) : IntKind.u32.wrap (n : Int) = ((n % 4294967296 : Nat) : Int) := by
 simp only [IntKind.wrap, IntKind.signed, IntKind.bits, Bool.false_and, Bool.false_eq_true, if_false]; omega
theorem shr32 (n : Nat) : (n : Int).fdiv (2 ^ (min (Int.toNat 32) 64)) = ((n / 4294967296 : Nat) : Int) := by
 have : (2 : Int) ^ (min (Int.toNat 32) 64) = 4294967296 := by decide
 rw [this, Int.fdiv_eq_ediv_of_nonneg _ (by omega)]; omega
theorem shl32 (n : Nat) : (n : Int) * (2 ^ (min (Int.toNat 32) 64)) = ((n * 4294967296 : Nat) : Int) := by
 have : (2 : Int) ^ (min (Int.toNat 32) 64) = 4294967296 := by decide
 rw [this]; simp
theorem hm' : Tryz.prog.follows .mixedOrders = true := by kernel_rfl
theorem k_join {P : Program} {W : WP} {st : St} {ks : List Fr} {Q : Ex → St → Prop} {c : Code} (R : St → Prop) (h1 : go P W c st [] (fun e st' => e = .normal ∧ R st')) (h2 : ∀ st', R st' → runK P W ks .normal st' Q) : go P W c st ks Q := by
 unfold go at h1 ⊢
 refine wpc_mono c (fun e st' h => ?_) h1
 obtain ⟨rfl, h'⟩ : e = .normal ∧ R st' := by cases e <;> exact h
 exact h2 st' h'
theorem wrapU32neg {n : Int} (h1 : -4294967296 ≤ n) (h2 : n < 0) : IntKind.u32.wrap n = n + 4294967296 := by
 simp only [IntKind.wrap, IntKind.signed, IntKind.bits, Bool.false_and, Bool.false_eq_true, if_false]; omega
theorem shlV {a s : Nat} (h : s ≤ 64) : (a : Int) * 2 ^ (min s 64) = ((a * 2 ^ s : Nat) : Int) := by rw [Nat.min_eq_left h]; simp
theorem shrV {a s : Nat} (h : s ≤ 64) : (a : Int).fdiv (2 ^ (min s 64)) = ((a / 2 ^ s : Nat) : Int) := by
 rw [Nat.min_eq_left h, Int.fdiv_eq_ediv_of_nonneg _ (Int.le_of_lt (Int.pow_pos (by omega)))]; simp
theorem shrV32 {a s : Nat} (h : s ≤ 32) : (a : Int).fdiv (2 ^ (min s 32)) = ((a / 2 ^ s : Nat) : Int) := by
 rw [Nat.min_eq_left h, Int.fdiv_eq_ediv_of_nonneg _ (Int.le_of_lt (Int.pow_pos (by omega)))]; simp
theorem orU32 {a b : Nat} (ha : a < 4294967296) (hb : b < 4294967296) : (BitVec.ofInt 32 (a : Int) ||| BitVec.ofInt 32 (b : Int)).toNat = a ||| b := by
  simp only [BitVec.toNat_or, BitVec.toNat_ofInt]
  congr 1
  · omega
  · omega
theorem x_idxS {P : Program} {W : FuncId → Bool} {ops : Array Oper} {os : List Oper} {fr : Nat → AV} {h : Nat → Blk} {nx : Nat} {K : St → Prop} {d t t1 : Nat} {p : String} {af : Array Edge} {s : ByteArray} {i : Operand} {k : IntKind} {n : Nat} {b : UInt8}
  (hi : evA fr i = .int k (n : Int)) (hs : strT P t1 = true) (hb : s.data.toList[n]? = some b) (hk : wpos P W ops os ⟨upd fr d (.int .u8 b.toNat), h, nx⟩ K) :
  wpos P W ops (⟨some d, .index t1 (.const (.string s)) i, t, p, af, none⟩ :: os) ⟨fr, h, nx⟩ K := by
 rw [x_idx, hi]
 have hl := (List.getElem?_eq_some_iff.1 hb).1
 have e : evA fr (.const (.string s)) = .str s.data.toList := rfl
 rw [e]
 simp only
 rw [if_pos ⟨hs, by omega, by omega⟩, Int.toNat_natCast, hb]
 exact hk
theorem intOr32 {a b : Nat} (ha : a < 4294967296) (hb : b < 4294967296) : intA .or .u32 (a : Int) (b : Int) = some (.int .u32 ((a ||| b : Nat) : Int)) := by
  have e : (BitVec.ofInt IntKind.u32.bits (a : Int) ||| BitVec.ofInt IntKind.u32.bits (b : Int)).toNat = a ||| b := orU32 ha hb
  have hl : a ||| b < 2 ^ 32 := Nat.or_lt_two_pow (by simpa using ha) (by simpa using hb)
  simp only [intA, e]
  rw [wrapU32 (by omega) (by have : (2 : Nat) ^ 32 = 4294967296 := by decide
                             omega)]
theorem eatH_one (h : Nat → Blk) (j i : Nat) : eatH h [j] i = if i = j then { h i with lv := false } else h i := by simp [eatH]
attribute [go_sem] nc_add nc_addL nc_mul nc_mulL nc_mulR nc_div nc_divL nc_mod nc_modL nc_sub1 natA_at natA_put eatH_one Int.toNat_natCast Option.map_some shr32 shl32 List.getD_cons_zero List.getD_cons_succ List.length_set List.set_cons_zero List.set_cons_succ
def B32 : Nat := 4294967296
theorem B32_gt : 1 < B32 := by decide
def natI (n : Nat) : AV := .sl 114 (natA .u32 (enc B32 n)) [] false
@[simp] theorem natI_pure (n : Nat) : (natI n).pure = true := by simp [natI, AV.pure, natA_pure, AV.pureL]
@[simp] theorem natS_pure (n : Nat) : (natS n).pure = true := by simp [natS, AV.pure, natA_pure, AV.pureL]
theorem un_nat : Tryz.prog.underlying 68 = some (.slice 114) := by kernel_rfl
attribute [go_sem] un_nat
theorem i_Trim (xs : List Nat) (hlen : xs.length < 9223372036854775808) : CallOk Tryz.prog 76 [.sl 114 (natA .u32 xs) [] false] (.sl 114 (natA .u32 (trimZ xs)) [] false) [] := by
  refine callOk_of_wpc (W := fun _ => false) false hm' Tryz.func76 rfl (by kernel_rfl) (Nat.le_of_ble_eq_true rfl) (go_start ?_)
  generalize hQ : Post Tryz.prog Tryz.f76 _ _ _ _ _ = Q
  simp only [stIn, matL, matA, st00, List.getD]
  simp only [go_sem, ↓k_cond, ↓k_block]
  refine k_loop (fun (ys : List Nat) st => st.fr 0 = .sl 114 (natA .u32 ys) [] false ∧ ys.length < 9223372036854775808 ∧ trimZ ys = trimZ xs) (fun ys => ys.length) xs ⟨rfl, hlen, rfl⟩ ?_
  rintro ys ⟨fr, h, nx⟩ ⟨h0, h1, h2⟩ J hJ
  simp only at h0
  rcases List.eq_nil_or_concat ys with rfl | ⟨zs, z, rfl⟩
  · simp (disch := omega) only [go_sem, Nat.reduceEqDiff, Nat.reduceBEq, ↓reduceIte, reduceCtorEq, h0]
    rw [← hQ]
    exact post_one (.inl rfl) rfl (by simp [upd_app, ← h2]; rfl) (by simp [AV.pure, natA_pure, AV.pureL])
  · rw [List.concat_eq_append] at *
    simp only [List.length_append, List.length_cons, List.length_nil] at h1
    have hg : (zs ++ [z])[zs.length]? = some z := by simp
    have hl : (zs ++ [z]).length = zs.length + 1 := by simp
    by_cases hz : z = 0
    · simp (disch := omega) only [go_sem, Nat.reduceEqDiff, Nat.reduceBEq, ↓reduceIte, reduceCtorEq, h0, hg, hl]
      refine hJ zs _ ⟨?_, by omega, by rw [← h2, hz, trimZ_zero]⟩ (by simp)
      simp [upd_app, natA_take]
    · simp (disch := omega) only [go_sem, Nat.reduceEqDiff, Nat.reduceBEq, ↓reduceIte, reduceCtorEq, h0, hg, hl]
      rw [← hQ]
      refine post_one (.inl rfl) rfl (by simp [upd_app, ← h2, trimZ_pos _ hz]) (by simp [AV.pure, natA_pure, AV.pureL])
theorem i_Cmp (a b : Nat) (ha : (enc B32 a).length < 9223372036854775808) (hb : (enc B32 b).length < 9223372036854775808) : CallOk Tryz.prog 54 [natI a, natI b] (.int .i64 (cmpI a b)) [] := by
  refine callOk_of_wpc (W := fun _ => false) false hm' Tryz.func54 rfl (by kernel_rfl) (Nat.le_of_ble_eq_true rfl) (go_start ?_)
  generalize hQ : Post Tryz.prog Tryz.f54 _ _ _ _ _ = Q
  simp only [stIn, matL, matA, st00, natI]
  by_cases hl : (enc B32 a).length = (enc B32 b).length
  · simp (disch := omega) only [go_sem, Nat.reduceEqDiff, Nat.reduceBEq, ↓reduceIte, reduceCtorEq, List.getD_cons_zero, List.getD_cons_succ]
    refine k_loop (fun (i : Nat) st => st.fr 0 = natI a ∧ st.fr 1 = natI b ∧ st.fr 5 = .int .i64 ((i : Int) - 1) ∧ i ≤ (enc B32 a).length ∧ (enc B32 a).drop i = (enc B32 b).drop i) (fun i => i) (enc B32 a).length
      ⟨by simp [upd_app, natI], by simp [upd_app, natI], by simp [upd_app], Nat.le_refl _, by simp [hl]⟩ ?_
    rintro i ⟨fr, h, nx⟩ ⟨h0, h1, h5, hi, hd⟩ J hJ
    simp only [natI] at h0 h1 h5
    rcases Nat.eq_zero_or_pos i with rfl | hp
    · simp (disch := omega) only [go_sem, Nat.reduceEqDiff, Nat.reduceBEq, ↓reduceIte, reduceCtorEq, h0, h1, h5]
      rw [← hQ]
      exact post_one (.inl rfl) rfl (by simp [upd_app]; exact (all_cmp B32_gt (by simpa using hd)).symm) rfl
    · obtain ⟨j, rfl⟩ : ∃ j, i = j + 1 := ⟨i - 1, by omega⟩
      obtain ⟨x, hx⟩ : ∃ x, (enc B32 a)[j]? = some x := ⟨_, List.getElem?_eq_getElem (by omega)⟩
      obtain ⟨y, hy⟩ : ∃ y, (enc B32 b)[j]? = some y := ⟨_, List.getElem?_eq_getElem (by omega)⟩
      have e1 : ((j + 1 : Nat) : Int) - 1 = j := by omega
      rw [e1] at h5
      have gx : (natA .u32 (enc B32 a))[(j : Int).toNat]? = some (.int .u32 x) := natA_get (by simpa using hx)
      have gy : (natA .u32 (enc B32 b))[(j : Int).toNat]? = some (.int .u32 y) := natA_get (by simpa using hy)
      by_cases hxy : x = y
      · simp (disch := omega) only [go_sem, Nat.reduceEqDiff, Nat.reduceBEq, ↓reduceIte, reduceCtorEq, h0, h1, h5, hx, hy]
        refine hJ j _ ⟨by simp [upd_app, h0, natI], by simp [upd_app, h1, natI], by simp [upd_app], by omega, ?_⟩ (by omega)
        rw [drop_cons hx, drop_cons hy, hd, hxy]
      · have hc := dig_cmp B32_gt hl hx hy hd hxy
        by_cases hlt : x < y
        · simp (disch := omega) only [go_sem, Nat.reduceEqDiff, Nat.reduceBEq, ↓reduceIte, reduceCtorEq, h0, h1, h5, hx, hy]
          rw [← hQ]
          exact post_one (.inl rfl) rfl (by simp [upd_app, hc, hlt]) rfl
        · simp (disch := omega) only [go_sem, Nat.reduceEqDiff, Nat.reduceBEq, ↓reduceIte, reduceCtorEq, h0, h1, h5, hx, hy]
          rw [← hQ]
          exact post_one (.inl rfl) rfl (by simp [upd_app, hc, hlt]) rfl
  · have hc := len_ne_cmp B32_gt hl
    by_cases hlt : (enc B32 a).length < (enc B32 b).length
    · simp (disch := omega) only [go_sem, Nat.reduceEqDiff, Nat.reduceBEq, ↓reduceIte, reduceCtorEq, List.getD_cons_zero, List.getD_cons_succ]
      rw [← hQ]
      exact post_one (.inl rfl) rfl (by simp [upd_app, hc, hlt]) rfl
    · simp (disch := omega) only [go_sem, Nat.reduceEqDiff, Nat.reduceBEq, ↓reduceIte, reduceCtorEq, List.getD_cons_zero, List.getD_cons_succ]
      rw [← hQ]
      exact post_one (.inl rfl) rfl (by simp [upd_app, hc, hlt]) rfl
theorem ci_trim : callable Tryz.prog 76 = true := by kernel_rfl
theorem ci_cmp : callable Tryz.prog 54 = true := by kernel_rfl
theorem ci_natOf : callable Tryz.prog 55 = true := by kernel_rfl
theorem ci_small : callable Tryz.prog 84 = true := by kernel_rfl
theorem i_TrimE (xs : List Nat) (ex : Bool) (hlen : xs.length < 9223372036854775808) : CallOk Tryz.prog 76 [.sl 114 (natA .u32 xs) [] ex] (.sl 114 (natA .u32 (trimZ xs)) [] false) [] :=
 (i_Trim xs hlen).args (SubL.cons sub_sl .nil)
theorem two_enc {B a b n : Nat} (hB : 1 < B) (ha : a < B) (hb : b < B) (h : a + B * b = n) : trimZ [a, b] = enc B n := by
 rw [trimZ_enc hB (by intro d hd; simp at hd; rcases hd with rfl | rfl <;> assumption)]; simp [val, h]
theorem i_natOf (n : Nat) (hn : n < 18446744073709551616) : CallOk Tryz.prog 55 [.int .u64 n] (natI n) [] := by
 (refine callOk_of_wpc (W := fun _ => false) false hm' Tryz.func55 rfl (by kernel_rfl) (Nat.le_of_ble_eq_true rfl) (go_start ?_); generalize hQ : Post Tryz.prog Tryz.f55 _ _ _ _ _ = Q; simp only [stIn, matL, matA, st00])
 have e1 : (AV.int .u32 ((n % 4294967296 : Nat) : Int)) :: [.int .u32 ((n / 4294967296 : Nat) : Int)] = natA .u32 [n % 4294967296, n / 4294967296] := rfl
 simp (disch := omega) only [go_sem, Nat.reduceEqDiff, Nat.reduceBEq, ↓reduceIte, reduceCtorEq, wrapU32, wrapU32m]
 rw [e1]
 refine x_callP (i_TrimE [n % 4294967296, n / 4294967296] true (by simp)) ci_trim (by simp [evA, upd_app, ofVal, ofCell]) (by simp [AV.pure, AV.pureL]) (by simp [AV.pure, AV.pureL]) ?_
 simp (disch := omega) only [go_sem, Nat.reduceEqDiff, Nat.reduceBEq, ↓reduceIte, reduceCtorEq]
 rw [← hQ]
 exact post_one (.inl rfl) rfl (by simp only [upd_app, ↓reduceIte, natI]; rw [two_enc (n := n) B32_gt (by simp only [B32]; omega) (by simp only [B32]; omega) (by simp only [B32]; omega)]) (natI_pure n)
def smallI (a : Nat) : AV := if a < 18446744073709551616 then .tup [.int .u64 a, .bool true] else .tup [.int .u64 0, .bool false]
theorem val_drop_one {B i x : Nat} {xs : List Nat} (h : xs[i]? = some x) : val B (xs.drop i) = x + B * val B (xs.drop (i + 1)) := by rw [drop_cons h]; rfl
theorem i_small (a : Nat) (ha : (enc B32 a).length ≤ 1099511627776) : CallOk Tryz.prog 84 [natI a] (smallI a) [] := by
  (refine callOk_of_wpc (W := fun _ => false) false hm' Tryz.func84 rfl (by kernel_rfl) (Nat.le_of_ble_eq_true rfl) (go_start ?_); generalize hQ : Post Tryz.prog Tryz.f84 _ _ _ _ _ = Q; simp only [stIn, matL, matA, st00, natI])
  by_cases hs : (enc B32 a).length ≤ 2
  · have hlt : a < 18446744073709551616 := by
      have h1 := enc_len_pow B32_gt (n := a)
      have h2 : B32 ^ (enc B32 a).length ≤ B32 ^ 2 := Nat.pow_le_pow_right (by decide) hs
      have h3 : B32 ^ 2 = 18446744073709551616 := by decide
      omega
    simp (disch := omega) only [go_sem, Nat.reduceEqDiff, Nat.reduceBEq, ↓reduceIte, reduceCtorEq]
    refine k_loop (fun (i : Nat) st => st.fr 0 = natI a ∧ st.fr 4 = .int .u64 (val B32 ((enc B32 a).drop i) : Nat) ∧ st.fr 5 = .int .i64 ((i : Int) - 1) ∧ i ≤ (enc B32 a).length) (fun i => i) (enc B32 a).length
      ⟨by simp [upd_app, natI], by simp [upd_app, val], by simp [upd_app], Nat.le_refl _⟩ ?_
    rintro i ⟨fr, h, nx⟩ ⟨h0, h4, h5, hi⟩ J hJ
    simp only [natI] at h0 h4 h5
    rcases Nat.eq_zero_or_pos i with rfl | hp
    · rw [List.drop_zero, val_enc B32_gt] at h4
      simp (disch := omega) only [go_sem, Nat.reduceEqDiff, Nat.reduceBEq, ↓reduceIte, reduceCtorEq, h0, h4, h5]
      rw [← hQ]
      simp only [smallI, if_pos hlt]
      exact post_two (.inl rfl) rfl (by simp [upd_app]) (by simp [upd_app]) rfl rfl
    · obtain ⟨j, rfl⟩ : ∃ j, i = j + 1 := ⟨i - 1, by omega⟩
      obtain ⟨x, hx⟩ : ∃ x, (enc B32 a)[j]? = some x := ⟨_, List.getElem?_eq_getElem (by omega)⟩
      have hxB : x < B32 := enc_lt B32_gt a x (List.mem_of_getElem? hx)
      have e1 : ((j + 1 : Nat) : Int) - 1 = j := by omega
      rw [e1] at h5
      have hv := val_drop_one (B := B32) hx
      have hle : val B32 ((enc B32 a).drop (j + 1)) < B32 := by
        have := val_lt (B := B32) (xs := (enc B32 a).drop (j + 1)) (fun d hd => enc_lt B32_gt a d (List.mem_of_mem_drop hd))
        have h2 : B32 ^ ((enc B32 a).drop (j + 1)).length ≤ B32 ^ 1 := Nat.pow_le_pow_right (by decide) (by simp; omega)
        rw [Nat.pow_one] at h2; omega
      generalize val B32 ((enc B32 a).drop (j + 1)) = v at h4 hv hle
      have hB : B32 = 4294967296 := rfl
      rw [hB] at hxB hle
      rw [show B32 * v = 4294967296 * v from rfl] at hv
      simp (disch := omega) only [go_sem, Nat.reduceEqDiff, Nat.reduceBEq, ↓reduceIte, reduceCtorEq, h0, h4, h5, hx]
      refine hJ j _ ⟨by simp [upd_app, h0, natI], ?_, by simp [upd_app], by omega⟩ (by omega)
      rw [hv]; simp [upd_app]; omega
  · have hbig : ¬ a < 18446744073709551616 := fun h => hs (enc_len_le B32_gt (by simpa [B32] using h))
    simp (disch := omega) only [go_sem, Nat.reduceEqDiff, Nat.reduceBEq, ↓reduceIte, reduceCtorEq]
    refine k_loop (fun (_ : Unit) st => st.fr 0 = natI a ∧ st.fr 4 = .int .u64 0 ∧ ∃ i : Nat, st.fr 5 = .int .i64 i ∧ i ≤ 1099511627776) (fun _ => 0) ()
      ⟨by simp [upd_app, natI], by simp [upd_app], (enc B32 a).length - 1, by simp [upd_app]; omega, by omega⟩ ?_
    rintro i ⟨fr, h, nx⟩ ⟨h0, h4, j, h5, hj⟩ J hJ
    simp only [natI] at h0 h4 h5
    simp (disch := omega) only [go_sem, Nat.reduceEqDiff, Nat.reduceBEq, ↓reduceIte, reduceCtorEq, h0, h4, h5]
    rw [← hQ]
    simp only [smallI, if_neg hbig]
    exact post_two (.inl rfl) rfl (by simp [upd_app]) (by simp [upd_app]) rfl rfl
theorem ci_divSmall : callable Tryz.prog 95 = true := by kernel_rfl
theorem natA_zeros {k : IntKind} {n : Nat} : List.replicate n (AV.int k 0) = natA k (List.replicate n 0) := by simp [natA]
attribute [go_sem] natA_zeros Int.toNat_natCast
theorem snapL_one {st : St} {id n len T : Nat} {k : IntKind} {xs : List Nat} (h : st.h id = ⟨T, natA k xs, true, true, true⟩) (hn : xs.length = n) (hl : len ≤ n) :
  snapL (snapA st 8) [.ref id n 0 len] = some ([.sl T (natA k (xs.take len)) [] false], [id]) := by
 have := snap_frozen (st := st) (d := 7) (id := id) (n := n) (off := 0) (len := len) (T := T) (r := natA k (xs.take len)) (by rw [h]) (by rw [h, natA_length, hn]) (by rw [h]) (by omega) (by rw [h, List.drop_zero, natA_take]) (natA_pure _ _)
 simp [snapL, this]
theorem i_divSmall (a d : Nat) (ha : (enc B32 a).length ≤ 1099511627776) (hd : 0 < d) (hd2 : d < 4294967296) :
    CallOk Tryz.prog 95 [natI a, .int .u32 d] (.tup [natI (a / d), .int .u32 ((a % d : Nat) : Int)]) [] := by
  (refine callOk_of_wpc (W := fun g => g == 76) false hm' Tryz.func95 rfl (by kernel_rfl) (Nat.le_of_ble_eq_true rfl) (go_start ?_); generalize hQ : Post Tryz.prog Tryz.f95 _ _ _ _ _ = Q; simp only [stIn, matL, matA, st00, natI])
  obtain ⟨n, hn⟩ : ∃ n, (enc B32 a).length = n := ⟨_, rfl⟩
  have hB : B32 = 4294967296 := rfl
  simp (disch := omega) only [go_sem, Nat.reduceEqDiff, Nat.reduceBEq, ↓reduceIte, reduceCtorEq, hn, reach]
  refine k_loop (fun (p : Nat × Nat × List Nat) st => st.fr 0 = natI a ∧ st.fr 1 = .int .u32 d ∧ st.fr 6 = .ref 0 n 0 n ∧ st.fr 7 = .int .u64 p.2.1 ∧ st.fr 8 = .int .i64 ((p.1 : Int) - 1) ∧
      st.h 0 = ⟨114, natA .u32 (List.replicate p.1 0 ++ p.2.2), true, true, true⟩ ∧ p.1 + p.2.2.length = n ∧ p.2.1 < d ∧ (∀ q ∈ p.2.2, q < B32) ∧ val B32 p.2.2 * d + p.2.1 = val B32 ((enc B32 a).drop p.1)) (fun p => p.1) (n, 0, [])
    ⟨by simp [upd_app, natI], by simp [upd_app], by simp [upd_app], by simp [upd_app], by simp [upd_app], by simp [upd_app, natA], by simp, hd, by simp, by simp [← hn, val]⟩ ?_
  rintro ⟨i, r, qs⟩ ⟨fr, h, nx⟩ ⟨h0, h1, h6, h7, h8, hb, hlen, hr, hq, hv⟩ J hJ
  simp only [natI] at h0 h1 h6 h7 h8 hb hlen hr hq hv
  rcases Nat.eq_zero_or_pos i with rfl | hp
  · simp only [List.replicate_zero, List.nil_append, Nat.zero_add, List.drop_zero, val_enc B32_gt] at hb hlen hv
    simp (disch := omega) only [go_sem, Nat.reduceEqDiff, Nat.reduceBEq, ↓reduceIte, reduceCtorEq, h0, h1, h6, h7, h8]
    refine x_callF (i_Trim (qs.take n) (by simp; omega)) ci_trim (by simp [evA, upd_app]) (snapL_one hb hlen (Nat.le_refl _)) (by simp [hb]) (by simp [AV.pure, AV.pureL, natA_pure]) (by simp [AV.pure, AV.pureL, natA_pure]) (by simp) ?_
    simp (disch := omega) only [go_sem, Nat.reduceEqDiff, Nat.reduceBEq, ↓reduceIte, reduceCtorEq, h7, wrapU32, wrapU32m]
    obtain ⟨e1, e2⟩ := sdiv_end hd hr hv
    have e3 : trimZ (qs.take n) = enc B32 (a / d) := by rw [List.take_of_length_le (by omega), trimZ_enc B32_gt hq, e1]
    have e4 : r % 4294967296 = a % d := by rw [← e2]; omega
    rw [e3, ← hQ]
    exact post_two (.inl rfl) rfl (by simp [upd_app, natI]) (by simp only [upd_app, ↓reduceIte, e2]) (by simp) rfl
  · obtain ⟨j, rfl⟩ : ∃ j, i = j + 1 := ⟨i - 1, by omega⟩
    obtain ⟨x, hx⟩ : ∃ x, (enc B32 a)[j]? = some x := ⟨_, List.getElem?_eq_getElem (by omega)⟩
    have hxB : x < B32 := enc_lt B32_gt a x (List.mem_of_getElem? hx)
    have e1 : ((j + 1 : Nat) : Int) - 1 = j := by omega
    rw [e1] at h8
    obtain ⟨s1, s2, s3⟩ := sdiv_step (q := val B32 qs) hd hr hxB
    have hv2 := val_drop_one (B := B32) hx
    rw [hB] at hxB
    have hrB : r * 4294967296 < 18446744069414584320 := by omega
    have hmm : (r * 4294967296 + x) / d < 4294967296 := by rw [hB] at s1; exact s1
    have hrd : (r * 4294967296 + x) % d < d := Nat.mod_lt _ hd
    have hd0 : ¬ (d : Int) = 0 := by omega
    have hl1 : (natA .u32 (List.replicate (j + 1) 0 ++ qs)).length = n := by simp [natA_length]; omega
    have hg1 : ((List.replicate (j + 1) 0 ++ qs)[j]?) = some 0 := by rw [List.getElem?_append_left (by simp), List.getElem?_replicate, if_pos (by omega)]
    obtain ⟨q, hq'⟩ : ∃ q, (r * 4294967296 + x) / d = q := ⟨_, rfl⟩
    obtain ⟨m, hm⟩ : ∃ m, (r * 4294967296 + x) % d = m := ⟨_, rfl⟩
    rw [hB, hq', hm] at s3
    rw [hq'] at hmm
    rw [hm] at hrd
    simp (disch := omega) only [go_sem, Nat.reduceEqDiff, Nat.reduceBEq, ↓reduceIte, reduceCtorEq, h0, h1, h6, h7, h8, hx, hb, hl1, hd0, hg1, hq', hm]
    refine hJ (j, m, q :: qs) _ ⟨by simp [upd_app, h0, natI], by simp [upd_app, h1], by simp [upd_app, h6], by simp [upd_app], by simp [upd_app], ?_, ?_, hrd, ?_, ?_⟩ (by simp only; omega)
    · simp only [upd_app, ↓reduceIte, replicate_set]
    · simp; omega
    · intro q' hq'; rcases List.mem_cons.1 hq' with h | h
      · rw [h, hB]; exact hmm
      · exact hq q' h
    · simp only [val]; rw [hv2, ← hv, hB]; exact s3
theorem ci_add : callable Tryz.prog 74 = true := by kernel_rfl
theorem ci_mul : callable Tryz.prog 53 = true := by kernel_rfl
theorem add_step {B c x y : Nat} (hB : 1 < B) (hc : c ≤ 1) (hx : x < B) (hy : y < B) : (c + x + y) / B ≤ 1 ∧ (c + x + y) % B < B ∧ (c + x + y) % B + B * ((c + x + y) / B) = c + x + y := by
 refine ⟨?_, Nat.mod_lt _ (by omega), Nat.mod_add_div _ _⟩
 rw [← Nat.lt_succ_iff, Nat.div_lt_iff_lt_mul (by omega)]; omega
theorem val_take_or {B : Nat} {xs : List Nat} {i : Nat} : val B (xs.take (i + 1)) = val B (xs.take i) + B ^ i * xs.getD i 0 := by
  by_cases h : i < xs.length
  · have hx : xs[i]? = some xs[i] := List.getElem?_eq_getElem h
    rw [val_take_succ hx, List.getD_eq_getElem?_getD, hx]; rfl
  · rw [List.getD_eq_getElem?_getD, List.getElem?_eq_none (by omega), List.take_of_length_le (by omega), List.take_of_length_le (by omega)]; simp
theorem i_addTo (a b : Nat) (ha : (enc B32 a).length ≤ 1099511627776) (hb : (enc B32 b).length ≤ 1099511627776) : CallOk Tryz.prog 74 [natI a, natI b] (natI (a + b)) [] := by
  (refine callOk_of_wpc (W := fun g => g == 76) false hm' Tryz.func74 rfl (by kernel_rfl) (Nat.le_of_ble_eq_true rfl) (go_start ?_); generalize hQ : Post Tryz.prog Tryz.f74 _ _ _ _ _ = Q; simp only [stIn, matL, matA, st00, natI])
  have hB : B32 = 4294967296 := rfl
  simp (disch := omega) only [go_sem, ↓k_condStop, Nat.reduceEqDiff, Nat.reduceBEq, ↓reduceIte, reduceCtorEq]; try unfold goS
  obtain ⟨R, hR⟩ : ∃ R : St → Prop, R = fun st => ∃ x y : Nat, st.fr 0 = natI x ∧ st.fr 1 = natI y ∧ x + y = a + b ∧ (enc B32 y).length ≤ (enc B32 x).length ∧ (enc B32 x).length ≤ 1099511627776 ∧ st.h = (fun _ => Blk.dead) ∧ st.nx = 0 := ⟨_, rfl⟩
  refine k_join R ?_ ?_
  · by_cases hl : (enc B32 a).length < (enc B32 b).length
    · simp (disch := omega) only [go_sem, Nat.reduceEqDiff, Nat.reduceBEq, ↓reduceIte, reduceCtorEq]
      rw [hR]; exact ⟨b, a, by simp [upd_app, natI], by simp [upd_app, natI], by omega, by omega, hb, rfl, rfl⟩
    · simp (disch := omega) only [go_sem, Nat.reduceEqDiff, Nat.reduceBEq, ↓reduceIte, reduceCtorEq]
      rw [hR]; exact ⟨a, b, by simp [upd_app, natI], by simp [upd_app, natI], by omega, by omega, ha, rfl, rfl⟩
  rintro ⟨fr, h, nx⟩ hst
  rw [hR] at hst
  obtain ⟨x, y, h0, h1, hxy, hle, hxl, e1, e2⟩ := hst
  simp only at h0 h1 e1 e2
  subst e1 e2
  rw [← hxy] at hQ
  clear hxy ha hb
  obtain ⟨n, hn⟩ : ∃ n, (enc B32 x).length = n := ⟨_, rfl⟩
  rw [hn] at hle hxl
  simp only [natI] at h0 h1
  simp (disch := omega) only [go_sem, Nat.reduceEqDiff, Nat.reduceBEq, ↓reduceIte, reduceCtorEq, h0, h1, hn, reach]
  refine k_loop (fun (p : Nat × Nat × List Nat) st => st.fr 0 = natI x ∧ st.fr 1 = natI y ∧ st.fr 5 = .ref 0 (n + 1) 0 (n + 1) ∧ st.fr 6 = .int .u64 p.2.1 ∧ st.fr 20 = .int .i64 n ∧ st.fr 21 = .int .i64 p.1 ∧
      st.h 0 = ⟨114, natA .u32 p.2.2, true, true, true⟩ ∧ p.2.2.length = n + 1 ∧ p.1 ≤ n ∧ p.2.1 ≤ 1 ∧ (∀ q ∈ p.2.2, q < B32) ∧ val B32 p.2.2 + B32 ^ p.1 * p.2.1 = val B32 ((enc B32 x).take p.1) + val B32 ((enc B32 y).take p.1) ∧ p.2.2.drop p.1 = List.replicate (n + 1 - p.1) 0) (fun p => n - p.1) (0, 0, List.replicate (n + 1) 0)
    ⟨by simp [upd_app, h0, natI], by simp [upd_app, h1, natI], by simp [upd_app], by simp [upd_app], by simp [upd_app], by simp [upd_app], by simp [upd_app], by simp, by simp, by simp, zeros_lt B32_gt, by simp [val_zeros, val], by simp⟩ ?_
  rintro ⟨i, c, ds⟩ ⟨fr, h, nx⟩ ⟨h0, h1, h5, h6, h20, h21, hb, hlen, hi, hc, hq, hv, hz⟩ J hJ
  simp only [natI] at h0 h1 h5 h6 h20 h21 hb hlen hi hc hq hv hz
  have hzi : ∀ k, i ≤ k → k ≤ n → ds[k]? = some 0 := by
    intro k hk hk2
    have := congrArg (·[k - i]?) hz
    simp only [List.getElem?_drop, List.getElem?_replicate] at this
    rw [if_pos (by omega), show i + (k - i) = k by omega] at this; exact this
  by_cases hin : i < n
  · obtain ⟨u, hu⟩ := get_some (xs := enc B32 x) (i := i) (by omega)
    have huB : u < B32 := enc_lt B32_gt x u (List.mem_of_getElem? hu)
    have hvu := val_take_succ (B := B32) hu
    obtain ⟨w, hw⟩ : ∃ w, (enc B32 y).getD i 0 = w := ⟨_, rfl⟩
    have hwB : w < B32 := by
      rw [← hw, List.getD_eq_getElem?_getD]
      by_cases h : i < (enc B32 y).length
      · rw [List.getElem?_eq_getElem h]; exact enc_lt B32_gt y _ (List.getElem_mem h)
      · rw [List.getElem?_eq_none (by omega)]; decide
    have hvw := val_take_or (B := B32) (xs := enc B32 y) (i := i)
    rw [hw] at hvw
    obtain ⟨s1, s2, s3⟩ := add_step B32_gt hc huB hwB
    have hset := fun v => val_set (B := B32) (v := v) (hzi i (Nat.le_refl _) (by omega))
    have key : ∀ st : St, st.fr 0 = natI x → st.fr 1 = natI y → st.fr 5 = .ref 0 (n + 1) 0 (n + 1) → st.fr 6 = .int .u64 ((c + u + w) / 4294967296 : Nat) → st.fr 20 = .int .i64 n → st.fr 21 = .int .i64 ((i + 1 : Nat) : Int) →
        st.h 0 = ⟨114, natA .u32 (ds.set i ((c + u + w) % 4294967296)), true, true, true⟩ → J st := by
      intro st k0 k1 k5 k6 k20 k21 kh
      refine hJ (i + 1, (c + u + w) / B32, ds.set i ((c + u + w) % B32)) st ⟨k0, k1, k5, k6, k20, k21, kh, by simp [hlen], hin, s1, set_lt hq s2, ?_, ?_⟩ (by simp only; omega)
      · have h1 := hset ((c + u + w) % B32)
        simp only [Nat.mul_zero, Nat.add_zero] at h1
        have h2 : B32 ^ i * ((c + u + w) % B32 + B32 * ((c + u + w) / B32)) = B32 ^ i * (c + u + w) := by rw [s3]
        rw [Nat.mul_add, Nat.mul_add, Nat.mul_add, ← Nat.mul_assoc] at h2
        simp only [hvu, hvw, Nat.pow_succ]; omega
      · simp only
        rw [List.drop_set_of_lt (by omega)]
        have := congrArg (List.drop 1) hz
        rw [List.drop_drop, List.drop_replicate] at this
        rw [this]; congr 1
    clear hJ hv hz hset s1 s2 s3 hvu hvw
    simp only [hB] at huB hwB
    have hdl : (natA .u32 ds).length = n + 1 := by rw [natA_length, hlen]
    have hdi := hzi i (Nat.le_refl _) (by omega)
    by_cases hiy : i < (enc B32 y).length
    · have hyw : (enc B32 y)[i]? = some w := by rw [List.getElem?_eq_getElem hiy, ← hw, List.getD_eq_getElem?_getD, List.getElem?_eq_getElem hiy]; rfl
      simp (disch := omega) only [go_sem, Nat.reduceEqDiff, Nat.reduceBEq, ↓reduceIte, reduceCtorEq, h0, h1, h5, h6, h20, h21, hu, hyw, hb, hlen, hdl, hdi, wrapU32, wrapU32m]
      exact key _ (by simp [upd_app, h0, natI] <;> omega) (by simp [upd_app, h1, natI] <;> omega) (by simp [upd_app, h5] <;> omega) (by simp [upd_app] <;> omega) (by simp [upd_app, h20] <;> omega) (by simp [upd_app] <;> omega) (by simp [upd_app] <;> omega)
    · have hw0 : w = 0 := by rw [← hw, List.getD_eq_getElem?_getD, List.getElem?_eq_none (by omega)]; rfl
      subst hw0
      simp (disch := omega) only [go_sem, Nat.reduceEqDiff, Nat.reduceBEq, ↓reduceIte, reduceCtorEq, h0, h1, h5, h6, h20, h21, hu, hb, hlen, hdl, hdi, wrapU32, wrapU32m]
      exact key _ (by simp [upd_app, h0, natI] <;> omega) (by simp [upd_app, h1, natI] <;> omega) (by simp [upd_app, h5] <;> omega) (by simp [upd_app, Nat.add_zero] <;> omega) (by simp [upd_app, h20] <;> omega) (by simp [upd_app] <;> omega) (by simp [upd_app, Nat.add_zero] <;> omega)
  · obtain rfl : i = n := by omega
    have ex : (enc B32 x).take i = enc B32 x := List.take_of_length_le (by omega)
    have ey : (enc B32 y).take i = enc B32 y := List.take_of_length_le (by omega)
    rw [ex, ey, val_enc B32_gt, val_enc B32_gt] at hv
    have hset := val_set (B := B32) (v := c) (hzi i (Nat.le_refl _) (Nat.le_refl _))
    have hdi := hzi i (Nat.le_refl _) (Nat.le_refl _)
    have hdl : (natA .u32 ds).length = i + 1 := by rw [natA_length, hlen]
    simp (disch := omega) only [go_sem, Nat.reduceEqDiff, Nat.reduceBEq, ↓reduceIte, reduceCtorEq, h0, h1, h5, h6, h20, h21, hb, hlen, hdl, hn, hdi]
    refine x_callF (i_Trim ((ds.set i c).take (i + 1)) (by simp; omega)) ci_trim (by simp [evA, upd_app]) (snapL_one (id := 0) (st := ⟨_, _, _⟩) (by simp only [upd_app, ↓reduceIte]) (by simp [hlen]) (Nat.le_refl _)) (by simp [upd_app, hb]) (by simp [AV.pure, AV.pureL]) (by simp [AV.pure, AV.pureL]) (by simp) ?_
    simp (disch := omega) only [go_sem, Nat.reduceEqDiff, Nat.reduceBEq, ↓reduceIte, reduceCtorEq]
    have e3 : trimZ ((ds.set i c).take (i + 1)) = enc B32 (x + y) := by
      rw [List.take_of_length_le (by simp [hlen]), trimZ_enc B32_gt (set_lt hq (by rw [hB]; omega))]
      congr 1; simp only [Nat.mul_zero, Nat.add_zero] at hset; omega
    rw [e3, ← hQ]
    exact post_one (.inl rfl) rfl (by simp only [upd_app, ↓reduceIte, natI]) (by simp)
theorem mul_pos_lt {B i l a b : Nat} (ha : a < B ^ i) (hb : b < B ^ l) : a * b < B ^ (i + l) := by
 rw [Nat.pow_add]; exact Nat.mul_lt_mul'' ha hb
theorem i_mul (a b : Nat) (ha : (enc B32 a).length ≤ 1099511627776) (hb : (enc B32 b).length ≤ 1099511627776) : CallOk Tryz.prog 53 [natI a, natI b] (natI (a * b)) [] := by
  (refine callOk_of_wpc (W := fun g => g == 76) false hm' Tryz.func53 rfl (by kernel_rfl) (Nat.le_of_ble_eq_true rfl) (go_start ?_); generalize hQ : Post Tryz.prog Tryz.f53 _ _ _ _ _ = Q; simp only [stIn, matL, matA, st00, natI])
  have hB : B32 = 4294967296 := rfl
  obtain ⟨n, hn⟩ : ∃ n, (enc B32 a).length = n := ⟨_, rfl⟩
  obtain ⟨l, hl⟩ : ∃ l, (enc B32 b).length = l := ⟨_, rfl⟩
  rw [hn] at ha; rw [hl] at hb
  have hblt : b < B32 ^ l := by rw [← hl]; exact enc_len_pow B32_gt
  simp (disch := omega) only [go_sem, Nat.reduceEqDiff, Nat.reduceBEq, ↓reduceIte, reduceCtorEq, hn, hl, reach]
  refine k_loop (fun (p : Nat × List Nat) st => st.fr 0 = natI a ∧ st.fr 1 = natI b ∧ st.fr 5 = .ref 0 (n + l) 0 (n + l) ∧ st.fr 17 = natI a ∧ st.fr 18 = .int .i64 n ∧ st.fr 19 = .int .i64 p.1 ∧
      st.h 0 = ⟨114, natA .u32 p.2, true, true, true⟩ ∧ p.2.length = n + l ∧ p.1 ≤ n ∧ (∀ q ∈ p.2, q < B32) ∧ val B32 p.2 = val B32 ((enc B32 a).take p.1) * b) (fun p => n - p.1) (0, List.replicate (n + l) 0)
    ⟨(by simp [upd_app, natI] <;> omega), (by simp [upd_app, natI] <;> omega), (by simp [upd_app] <;> omega), (by simp [upd_app, natI] <;> omega), (by simp [upd_app] <;> omega), (by simp [upd_app] <;> omega), (by simp [upd_app] <;> omega), by simp, by simp, zeros_lt B32_gt, by simp [val_zeros, val]⟩ ?_
  rintro ⟨i, ds⟩ ⟨fr, h, nx⟩ ⟨h0, h1, h5, h17, h18, h19, hm, hlen, hi, hq, hv⟩ J hJ
  simp only [natI] at h0 h1 h5 h17 h18 h19 hm hlen hi hq hv
  have hdl : (natA .u32 ds).length = n + l := by rw [natA_length, hlen]
  by_cases hin : i < n
  · obtain ⟨u, hu⟩ := get_some (xs := enc B32 a) (i := i) (by omega)
    have huB : u < B32 := enc_lt B32_gt a u (List.mem_of_getElem? hu)
    have hvu := val_take_succ (B := B32) hu
    have hlow : val B32 ds < B32 ^ (i + l) := by
      rw [hv]
      refine mul_pos_lt ?_ hblt
      have := val_lt (B := B32) (xs := (enc B32 a).take i) (fun d hd => enc_lt B32_gt a d (List.mem_of_mem_take hd))
      rwa [show ((enc B32 a).take i).length = i by simp; omega] at this
    simp (disch := omega) only [go_sem, Nat.reduceEqDiff, Nat.reduceBEq, ↓reduceIte, reduceCtorEq, h0, h1, h5, h17, h18, h19, hm, hdl, hu, hl]
    refine k_loop (fun (p : Nat × Nat × List Nat) st => st.fr 0 = natI a ∧ st.fr 1 = natI b ∧ st.fr 5 = .ref 0 (n + l) 0 (n + l) ∧ st.fr 17 = natI a ∧ st.fr 18 = .int .i64 n ∧ st.fr 19 = .int .i64 i ∧ st.fr 6 = .int .i64 i ∧ st.fr 7 = .int .u32 u ∧
        st.fr 8 = .int .u64 p.2.1 ∧ st.fr 24 = natI b ∧ st.fr 25 = .int .i64 l ∧ st.fr 26 = .int .i64 p.1 ∧
        st.h 0 = ⟨114, natA .u32 p.2.2, true, true, true⟩ ∧ p.2.2.length = n + l ∧ p.1 ≤ l ∧ p.2.1 < B32 ∧ (∀ q ∈ p.2.2, q < B32) ∧ val B32 p.2.2 + B32 ^ (i + p.1) * p.2.1 = val B32 ds + B32 ^ i * u * val B32 ((enc B32 b).take p.1) ∧ p.2.2.drop (i + p.1) = ds.drop (i + p.1)) (fun p => l - p.1) (0, 0, ds)
      ⟨(by simp [upd_app, h0, natI] <;> omega), (by simp [upd_app, h1, natI] <;> omega), (by simp [upd_app, h5] <;> omega), (by simp [upd_app, h17, natI] <;> omega), (by simp [upd_app, h18] <;> omega), (by simp [upd_app, h19] <;> omega), (by simp [upd_app] <;> omega), (by simp [upd_app] <;> omega), (by simp [upd_app] <;> omega), (by simp [upd_app, natI] <;> omega), (by simp [upd_app] <;> omega), (by simp [upd_app] <;> omega), (by simp [upd_app, hm] <;> omega), hlen, by simp, by simp [B32], hq, by simp [val], rfl⟩ ?_
    clear hm h0 h1 h5 h17 h18 h19 hdl
    rintro ⟨k, c, es⟩ ⟨fr, h, nx⟩ ⟨h0, h1, h5, h17, h18, h19, h6, h7, h8, h24, h25, h26, hm, hel, hk, hc, hp, hw, hd⟩ J' hJ'
    simp only [natI] at h0 h1 h5 h17 h18 h19 h6 h7 h8 h24 h25 h26 hm hel hk hc hp hw hd
    have hdl : (natA .u32 es).length = n + l := by rw [natA_length, hel]
    by_cases hkl : k < l
    · obtain ⟨y, hy⟩ := get_some (xs := enc B32 b) (i := k) (by omega)
      obtain ⟨o, ho⟩ := get_some (xs := es) (i := i + k) (by omega)
      have hyB : y < B32 := enc_lt B32_gt b y (List.mem_of_getElem? hy)
      have hoB : o < B32 := hp o (List.mem_of_getElem? ho)
      obtain ⟨s1, s2, s3⟩ := mul_step hc huB hyB hoB
      have hset := fun v => val_set (B := B32) (v := v) ho
      have hvy := val_take_succ (B := B32) hy
      have key : ∀ st : St, st.fr 0 = natI a → st.fr 1 = natI b → st.fr 5 = .ref 0 (n + l) 0 (n + l) → st.fr 17 = natI a → st.fr 18 = .int .i64 n → st.fr 19 = .int .i64 i → st.fr 6 = .int .i64 i → st.fr 7 = .int .u32 u →
          st.fr 8 = .int .u64 ((c + (u * y + o)) / 4294967296 : Nat) → st.fr 24 = natI b → st.fr 25 = .int .i64 l → st.fr 26 = .int .i64 ((k + 1 : Nat) : Int) →
          st.h 0 = ⟨114, natA .u32 (es.set (i + k) ((c + (u * y + o)) % 4294967296)), true, true, true⟩ → J' st := by
        intro st k0 k1 k5 k17 k18 k19 k6 k7 k8 k24 k25 k26 kh
        refine hJ' (k + 1, (c + (u * y + o)) / B32, es.set (i + k) ((c + (u * y + o)) % B32)) st ⟨k0, k1, k5, k17, k18, k19, k6, k7, k8, k24, k25, k26, kh, by simp [hel], hkl, s1, set_lt hp s2, ?_, ?_⟩ (by simp only; omega)
        · have h1 := hset ((c + (u * y + o)) % B32)
          have h2 : B32 ^ (i + k) * ((c + (u * y + o)) % B32 + B32 * ((c + (u * y + o)) / B32)) = B32 ^ (i + k) * (c + (u * y + o)) := by rw [Nat.mod_add_div]
          have h3 : B32 ^ i * u * (B32 ^ k * y) = B32 ^ (i + k) * (u * y) := by rw [Nat.pow_add, Nat.mul_assoc, Nat.mul_assoc]; congr 1; rw [Nat.mul_left_comm]
          rw [Nat.mul_add, Nat.mul_add, Nat.mul_add, ← Nat.mul_assoc] at h2
          simp only [hvy]
          rw [Nat.mul_add, h3, ← Nat.add_assoc i k 1, Nat.pow_succ]; omega
        · simp only
          rw [List.drop_set_of_lt (by omega)]
          have := congrArg (List.drop 1) hd
          rw [List.drop_drop, List.drop_drop] at this
          exact this
      clear hJ hJ' hw hd hset s1 s2 hvy hv hlow hvu
      simp only [hB] at huB hyB hoB hc s3
      obtain ⟨z, hz⟩ : ∃ z, u * y = z := ⟨_, rfl⟩
      rw [hz] at s3 key
      simp (disch := omega) only [go_sem, Nat.reduceEqDiff, Nat.reduceBEq, ↓reduceIte, reduceCtorEq, h0, h1, h5, h17, h18, h19, h6, h7, h8, h24, h25, h26, hm, hdl, hel, hu, hy, ho, hz, wrapU32, wrapU32m]
      exact key _ (by simp [upd_app, h0, natI] <;> omega) (by simp [upd_app, h1, natI] <;> omega) (by simp [upd_app, h5] <;> omega) (by simp [upd_app, h17, natI] <;> omega) (by simp [upd_app, h18] <;> omega) (by simp [upd_app, h19] <;> omega) (by simp [upd_app, h6] <;> omega) (by simp [upd_app, h7] <;> omega) (by simp [upd_app] <;> omega) (by simp [upd_app, h24, natI] <;> omega) (by simp [upd_app, h25] <;> omega) (by simp [upd_app] <;> omega) (by simp [upd_app] <;> omega)
    · obtain rfl : k = l := by omega
      have eb : (enc B32 b).take k = enc B32 b := List.take_of_length_le (by omega)
      rw [eb, val_enc B32_gt] at hw
      obtain ⟨o, ho⟩ := get_some (xs := es) (i := i + k) (by omega)
      have ho' : ds[i + k]? = some o := by
        have := congrArg (·[0]?) hd
        simp only [List.getElem?_drop, Nat.add_zero] at this; rw [← this]; exact ho
      obtain rfl : o = 0 := zero_at B32_gt hq ho' hlow
      have hset := val_set (B := B32) (v := c) ho
      have key : ∀ st : St, st.fr 0 = natI a → st.fr 1 = natI b → st.fr 5 = .ref 0 (n + k) 0 (n + k) → st.fr 17 = natI a → st.fr 18 = .int .i64 n → st.fr 19 = .int .i64 ((i + 1 : Nat) : Int) →
          st.h 0 = ⟨114, natA .u32 (es.set (i + k) c), true, true, true⟩ → J st := by
        intro st k0 k1 k5 k17 k18 k19 kh
        refine hJ (i + 1, es.set (i + k) c) st ⟨k0, k1, k5, k17, k18, k19, kh, by simp [hel], hin, set_lt hp hc, ?_⟩ (by simp only; omega)
        simp only [Nat.mul_zero, Nat.add_zero] at hset
        simp only
        rw [hset, hw, hvu, hv, Nat.add_mul]
      clear hJ hw hd hset hv hlow hvu
      simp only [hB] at hc
      simp (disch := omega) only [go_sem, Nat.reduceEqDiff, Nat.reduceBEq, ↓reduceIte, reduceCtorEq, h0, h1, h5, h17, h18, h19, h6, h7, h8, h24, h25, h26, hm, hdl, hel, ho, hl]
      exact key _ (by simp [upd_app, h0, natI] <;> omega) (by simp [upd_app, h1, natI] <;> omega) (by simp [upd_app, h5] <;> omega) (by simp [upd_app, h17, natI] <;> omega) (by simp [upd_app, h18] <;> omega) (by simp [upd_app] <;> omega) (by simp [upd_app] <;> omega)
  · obtain rfl : i = n := by omega
    have ex : (enc B32 a).take i = enc B32 a := List.take_of_length_le (by omega)
    rw [ex, val_enc B32_gt] at hv
    simp (disch := omega) only [go_sem, Nat.reduceEqDiff, Nat.reduceBEq, ↓reduceIte, reduceCtorEq, h0, h1, h5, h17, h18, h19, hm, hdl]
    refine x_callF (i_Trim (ds.take (i + l)) (by simp; omega)) ci_trim (by simp [evA, upd_app]) (snapL_one (id := 0) (st := ⟨_, _, _⟩) (by simp only [hm]) (by simp [hlen]) (Nat.le_refl _)) (by simp [upd_app, hm]) (by simp [AV.pure, AV.pureL]) (by simp [AV.pure, AV.pureL]) (by simp) ?_
    simp (disch := omega) only [go_sem, Nat.reduceEqDiff, Nat.reduceBEq, ↓reduceIte, reduceCtorEq]
    have e3 : trimZ (ds.take (i + l)) = enc B32 (a * b) := by
      rw [List.take_of_length_le (by simp [hlen]), trimZ_enc B32_gt hq, hv]
    rw [e3, ← hQ]
    exact post_one (.inl rfl) rfl (by simp only [upd_app, ↓reduceIte, natI]) (by simp)
theorem c_Len32 : callable Tryz.prog 109 = true := by kernel_rfl
theorem c_LeadingZeros32 : callable Tryz.prog 96 = true := by kernel_rfl
theorem ci_shifted : callable Tryz.prog 97 = true := by kernel_rfl
def len2 (x : Nat) : Nat := if x = 0 then 0 else Nat.log2 x + 1
theorem len2_of {x n : Nat} (h1 : 2 ^ n ≤ x) (h2 : x < 2 ^ (n + 1)) : len2 x = n + 1 := by
 have h0 : x ≠ 0 := by have := Nat.pow_pos (n := n) (show 0 < 2 by omega); omega
 rw [len2, if_neg h0]
 have a := (Nat.le_log2 h0).2 h1
 have b := (Nat.log2_lt h0).2 h2
 omega
theorem len2_spec {x : Nat} (h : x ≠ 0) : 2 ^ (len2 x - 1) ≤ x ∧ x < 2 ^ len2 x ∧ 0 < len2 x := by
 rw [len2, if_neg h]
 exact ⟨Nat.log2_self_le h, Nat.lt_log2_self, by omega⟩
theorem len2_div {x k : Nat} (h : 2 ^ k ≤ x) : len2 x = len2 (x / 2 ^ k) + k := by
 have hp := Nat.pow_pos (n := k) (show 0 < 2 by omega)
 have h0 : x / 2 ^ k ≠ 0 := by
  have := Nat.div_pos h hp; omega
 obtain ⟨a, b, c⟩ := len2_spec h0
 obtain ⟨m, hm⟩ : ∃ m, len2 (x / 2 ^ k) = m + 1 := ⟨len2 (x / 2 ^ k) - 1, by omega⟩
 rw [hm] at a b ⊢
 rw [Nat.add_sub_cancel, Nat.le_div_iff_mul_le hp, ← Nat.pow_add] at a
 rw [Nat.div_lt_iff_lt_mul hp, ← Nat.pow_add] at b
 rw [show m + 1 + k = (m + k) + 1 by omega] at b ⊢
 exact len2_of a b
theorem len2_small (x : Nat) (h : x < 256) : len2 x < 9 := by
  by_cases h0 : x = 0
  · subst h0; decide
  · obtain ⟨a, _, c⟩ := len2_spec h0
    rcases Nat.lt_or_ge (len2 x) 9 with h' | h'
    · exact h'
    · have := Nat.pow_le_pow_right (show 0 < 2 by omega) (show 8 ≤ len2 x - 1 by omega); omega
theorem g_Len32 (x : Nat) (hx : x < 4294967296) : CallOk Tryz.prog 109 [.int .u32 x] (.int .i64 (len2 x)) [] := by
  (refine callOk_of_wpc (W := fun _ => false) false hm' Tryz.func109 rfl (by kernel_rfl) (Nat.le_of_ble_eq_true rfl) (go_start ?_); generalize hQ : Post Tryz.prog Tryz.f109 _ _ _ _ _ = Q; simp only [stIn, matL, matA, st00])
  simp (disch := omega) only [go_sem, ↓k_condStop, Nat.reduceEqDiff, Nat.reduceBEq, ↓reduceIte, reduceCtorEq]; try unfold goS
  obtain ⟨R, hR⟩ : ∃ R : St → Prop, R = fun st => ∃ y n : Nat, y < 65536 ∧ n ≤ 16 ∧ st.fr 0 = .int .u32 y ∧ st.fr 2 = .int .i64 n ∧ len2 x = len2 y + n := ⟨_, rfl⟩
  refine k_join R ?_ ?_
  · by_cases hb : 65536 ≤ x
    · have : len2 x = len2 (x / 65536) + 16 := len2_div (x := x) (k := 16) (by omega)
      simp (disch := omega) only [go_sem, Nat.reduceEqDiff, Nat.reduceBEq, ↓reduceIte, reduceCtorEq, shrV32]
      rw [hR]; exact ⟨x / 65536, 16, by omega, by omega, (by simp [upd_app] <;> omega), (by simp [upd_app] <;> omega), this⟩
    · simp (disch := omega) only [go_sem, Nat.reduceEqDiff, Nat.reduceBEq, ↓reduceIte, reduceCtorEq]
      rw [hR]; exact ⟨x, 0, by omega, by omega, (by simp [upd_app] <;> omega), (by simp [upd_app] <;> omega), by omega⟩
  rintro ⟨fr, h, nx⟩ hst
  rw [hR] at hst
  obtain ⟨y, n, hy, hn, h0, h2, hlen⟩ := hst
  simp only at h0 h2
  clear hR
  simp (disch := omega) only [go_sem, ↓k_condStop, Nat.reduceEqDiff, Nat.reduceBEq, ↓reduceIte, reduceCtorEq, h0, h2]; try unfold goS
  obtain ⟨R, hR⟩ : ∃ R : St → Prop, R = fun st => ∃ y n : Nat, y < 256 ∧ n ≤ 24 ∧ st.fr 0 = .int .u32 y ∧ st.fr 2 = .int .i64 n ∧ len2 x = len2 y + n := ⟨_, rfl⟩
  refine k_join R ?_ ?_
  · by_cases hb : 256 ≤ y
    · have : len2 y = len2 (y / 256) + 8 := len2_div (x := y) (k := 8) (by omega)
      simp (disch := omega) only [go_sem, Nat.reduceEqDiff, Nat.reduceBEq, ↓reduceIte, reduceCtorEq, h0, h2, shrV32]
      rw [hR]; exact ⟨y / 256, n + 8, by omega, by omega, (by simp [upd_app] <;> omega), (by simp [upd_app] <;> omega), by omega⟩
    · simp (disch := omega) only [go_sem, Nat.reduceEqDiff, Nat.reduceBEq, ↓reduceIte, reduceCtorEq, h0, h2]
      rw [hR]; exact ⟨y, n, by omega, by omega, (by simp [upd_app, h0] <;> omega), (by simp [upd_app, h2] <;> omega), by omega⟩
  rintro ⟨fr, h, nx⟩ hst
  rw [hR] at hst
  obtain ⟨y, n, hy, hn, h0, h2, hlen⟩ := hst
  simp only at h0 h2
  clear hR
  simp (disch := omega) only [go_sem, ↓x_idxStop, Nat.reduceEqDiff, Nat.reduceBEq, ↓reduceIte, reduceCtorEq, h0, h2]; try unfold wposI
  refine x_idxS (n := y) (b := (len2 y).toUInt8) (by simp [evA, upd_app, h0]; rfl) st_string ?_ ?_
  · clear h0 hlen; revert y; decide +kernel
  · have h8 := len2_small y hy
    have e : ((len2 y).toUInt8).toNat = len2 y := by simp; omega
    simp (disch := omega) only [go_sem, Nat.reduceEqDiff, Nat.reduceBEq, ↓reduceIte, reduceCtorEq, h2, e]
    rw [← hQ]
    exact post_one (.inl rfl) rfl (by simp only [upd_app, ↓reduceIte]; rw [hlen, Nat.add_comm]) rfl
theorem g_LeadingZeros32 (x : Nat) (hx : x < 4294967296) (h0 : x ≠ 0) : CallOk Tryz.prog 96 [.int .u32 x] (.int .i64 ((32 - len2 x : Nat) : Int)) [] := by
  (refine callOk_of_wpc (W := fun _ => false) false hm' Tryz.func96 rfl (by kernel_rfl) (Nat.le_of_ble_eq_true rfl) (go_start ?_); generalize hQ : Post Tryz.prog Tryz.f96 _ _ _ _ _ = Q; simp only [stIn, matL, matA, st00])
  have hl : len2 x ≤ 32 := by
    obtain ⟨a, b, c⟩ := len2_spec h0
    rcases Nat.lt_or_ge 32 (len2 x) with h | h
    · have := Nat.pow_le_pow_right (show 0 < 2 by omega) (show 32 ≤ len2 x - 1 by omega); omega
    · exact h
  simp (disch := omega) only [go_sem, Nat.reduceEqDiff, Nat.reduceBEq, ↓reduceIte, reduceCtorEq]
  refine x_callP (g_Len32 x hx) c_Len32 (by simp [evA, upd_app, ofVal, ofCell]) (by simp [AV.pure, AV.pureL]) (by simp [AV.pure, AV.pureL]) ?_
  have e : 32 - (len2 x : Int) = ((32 - len2 x : Nat) : Int) := by omega
  simp (disch := omega) only [go_sem, Nat.reduceEqDiff, Nat.reduceBEq, ↓reduceIte, reduceCtorEq, e]
  rw [← hQ]
  exact post_one (.inl rfl) rfl (by simp [upd_app] <;> omega) rfl
theorem norm_top {x : Nat} (hx : x < 4294967296) (h0 : x ≠ 0) : 2147483648 ≤ x * 2 ^ (32 - len2 x) ∧ x * 2 ^ (32 - len2 x) < 4294967296 ∧ 32 - len2 x ≤ 31 := by
  obtain ⟨a, b, c⟩ := len2_spec h0
  have hl : len2 x ≤ 32 := by
    rcases Nat.lt_or_ge 32 (len2 x) with h | h
    · have := Nat.pow_le_pow_right (show 0 < 2 by omega) (show 32 ≤ len2 x - 1 by omega); omega
    · exact h
  have h1 : 2 ^ (len2 x - 1) * 2 ^ (32 - len2 x) ≤ x * 2 ^ (32 - len2 x) := Nat.mul_le_mul_right _ a
  have h2 : x * 2 ^ (32 - len2 x) < 2 ^ len2 x * 2 ^ (32 - len2 x) := Nat.mul_lt_mul_of_pos_right b (Nat.pow_pos (by omega))
  rw [← Nat.pow_add] at h1 h2
  rw [show len2 x - 1 + (32 - len2 x) = 31 by omega] at h1
  rw [show len2 x + (32 - len2 x) = 32 by omega] at h2
  omega
theorem or_low {by' o z : Nat} (h : o < 2 ^ by') : o ||| (2 ^ by' * z) = o + 2 ^ by' * z := by
 rw [Nat.or_comm, ← Nat.two_pow_add_eq_or_of_lt h, Nat.add_comm]
theorem shift_low {s x : Nat} (hs : s ≤ 31) : x * 2 ^ s % 4294967296 = 2 ^ s * (x % 2 ^ (32 - s)) := by
 have : (4294967296 : Nat) = 2 ^ s * 2 ^ (32 - s) := by rw [← Nat.pow_add, show s + (32 - s) = 32 by omega]
 rw [this, Nat.mul_comm x, Nat.mul_mod_mul_left]
def shiftL (a s : Nat) : List Nat := enc B32 (a * 2 ^ s) ++ List.replicate ((enc B32 a).length + 1 - (enc B32 (a * 2 ^ s)).length) 0
theorem shift_step {B i x S y o vd v1 v2 T : Nat} (e1 : v1 + B ^ i * o = vd + B ^ i * (o + y % B)) (e2 : v2 + B ^ (i + 1) * 0 = v1 + B ^ (i + 1) * (y / B)) (hy : x * S = y) (hv : vd = T * S) : v2 = (T + B ^ i * x) * S := by
 have e3 : B ^ i * (y % B + B * (y / B)) = B ^ i * y := by rw [Nat.mod_add_div]
 rw [Nat.mul_add] at e1 e3
 rw [Nat.mul_zero, Nat.add_zero, Nat.pow_succ, Nat.mul_assoc] at e2
 rw [e2, Nat.add_mul, ← hv, Nat.mul_assoc, hy, ← e3]; omega
theorem i_shifted (a s : Nat) (ha : (enc B32 a).length ≤ 1099511627776) (hs : s ≤ 31) : CallOk Tryz.prog 97 [natI a, .int .i64 s] (.own 114 (natA .u32 (shiftL a s)) [] true) [] := by
  (refine callOk_of_wpc (W := fun _ => false) true hm' Tryz.func97 rfl (by kernel_rfl) (Nat.le_of_ble_eq_true rfl) (go_start ?_); generalize hQ : Post Tryz.prog Tryz.f97 _ _ _ _ _ = Q; simp only [stIn, matL, matA, st00, natI])
  have hB : B32 = 4294967296 := rfl
  obtain ⟨n, hn⟩ : ∃ n, (enc B32 a).length = n := ⟨_, rfl⟩
  rw [hn] at ha
  have hS : 2 ^ s ≤ 2147483648 := Nat.pow_le_pow_right (show 0 < 2 by omega) hs
  have hS0 : 0 < 2 ^ s := Nat.pow_pos (by omega)
  simp (disch := omega) only [go_sem, Nat.reduceEqDiff, Nat.reduceBEq, ↓reduceIte, reduceCtorEq, hn, reach]
  refine k_loop (fun (p : Nat × List Nat) st => st.fr 1 = .int .i64 s ∧ st.fr 5 = .ref 0 (n + 1) 0 (n + 1) ∧ st.fr 13 = natI a ∧ st.fr 14 = .int .i64 n ∧ st.fr 15 = .int .i64 p.1 ∧
      st.h 0 = ⟨114, natA .u32 p.2, true, true, true⟩ ∧ p.2.length = n + 1 ∧ p.1 ≤ n ∧ (∀ q ∈ p.2, q < B32) ∧ val B32 p.2 = val B32 ((enc B32 a).take p.1) * 2 ^ s) (fun p => n - p.1) (0, List.replicate (n + 1) 0)
    ⟨(by simp [upd_app] <;> omega), (by simp [upd_app] <;> omega), (by simp [upd_app, natI] <;> omega), (by simp [upd_app] <;> omega), (by simp [upd_app] <;> omega), (by simp [upd_app] <;> omega), by simp, by simp, zeros_lt B32_gt, by simp [val_zeros, val]⟩ ?_
  rintro ⟨i, ds⟩ ⟨fr, h, nx⟩ ⟨h1, h5, h13, h14, h15, hm, hlen, hi, hq, hv⟩ J hJ
  simp only [natI] at h1 h5 h13 h14 h15 hm hlen hi hq hv
  have hdl : (natA .u32 ds).length = n + 1 := by rw [natA_length, hlen]
  by_cases hin : i < n
  · obtain ⟨x, hx⟩ := get_some (xs := enc B32 a) (i := i) (by omega)
    have hxB : x < B32 := enc_lt B32_gt a x (List.mem_of_getElem? hx)
    have hvx := val_take_succ (B := B32) hx
    have htk : val B32 ((enc B32 a).take i) < B32 ^ i := by
      have := val_lt (B := B32) (xs := (enc B32 a).take i) (fun d hd => enc_lt B32_gt a d (List.mem_of_mem_take hd))
      rwa [show ((enc B32 a).take i).length = i by simp; omega] at this
    have hlow : val B32 ds < B32 ^ i * 2 ^ s := by rw [hv]; exact Nat.mul_lt_mul_of_pos_right htk hS0
    obtain ⟨o, ho⟩ := get_some (xs := ds) (i := i) (by omega)
    have hoS : o < 2 ^ s := by
      have h2 := Nat.div_lt_of_lt_mul hlow
      rw [dig_at B32_gt hq ho]
      exact Nat.lt_of_le_of_lt (Nat.mod_le _ _) h2
    have hz : ds[i + 1]? = some 0 := by
      obtain ⟨z, hz⟩ := get_some (xs := ds) (i := i + 1) (by omega)
      rw [hz, zero_at B32_gt hq hz (Nat.lt_trans hlow (by rw [Nat.pow_succ]; exact Nat.mul_lt_mul_of_pos_left (by rw [hB]; omega) (Nat.pow_pos (by decide))))]
    obtain ⟨y, hy⟩ : ∃ y, x * 2 ^ s = y := ⟨_, rfl⟩
    have hyB : y / 4294967296 < 2 ^ s := by
      rw [Nat.div_lt_iff_lt_mul (by omega), ← hy, Nat.mul_comm (2 ^ s)]; exact Nat.mul_lt_mul_of_pos_right (by rw [← hB]; exact hxB) hS0
    have hor : o ||| y % 4294967296 = o + y % 4294967296 := by rw [← hy, shift_low hs, or_low hoS]
    have hmod : y % 4294967296 ≤ 4294967296 - 2 ^ s := by
      rw [← hy, shift_low hs]
      have h1 : x % 2 ^ (32 - s) + 1 ≤ 2 ^ (32 - s) := Nat.mod_lt _ (Nat.pow_pos (by omega))
      have h2 := Nat.mul_le_mul_left (2 ^ s) h1
      rw [← Nat.pow_add, show s + (32 - s) = 32 by omega, Nat.mul_add, Nat.mul_one] at h2
      have : (2 : Nat) ^ 32 = 4294967296 := by decide
      omega
    have key : ∀ st : St, st.fr 1 = .int .i64 s → st.fr 5 = .ref 0 (n + 1) 0 (n + 1) → st.fr 13 = natI a → st.fr 14 = .int .i64 n → st.fr 15 = .int .i64 ((i + 1 : Nat) : Int) →
        st.h 0 = ⟨114, natA .u32 ((ds.set i (o + y % 4294967296)).set (i + 1) (y / 4294967296)), true, true, true⟩ → J st := by
      intro st k1 k5 k13 k14 k15 kh
      rw [← hB] at kh hmod hyB
      have e1 := val_set (B := B32) (v := o + y % B32) ho
      have e2 := val_set (B := B32) (xs := ds.set i (o + y % B32)) (p := i + 1) (o := 0) (v := y / B32) (by rw [List.getElem?_set_ne (by omega)]; exact hz)
      have hlt : o + y % B32 < B32 := by omega
      have hlt2 : y / B32 < B32 := by omega
      clear hor hB
      refine hJ (i + 1, (ds.set i (o + y % B32)).set (i + 1) (y / B32)) st ⟨k1, k5, k13, k14, k15, kh, by simp [hlen], hin, set_lt (set_lt hq hlt) hlt2, ?_⟩ (by simp only; omega)
      simp only [hvx]
      exact shift_step e1 e2 hy hv
    clear hJ hv hlow htk hvx hq
    simp only [hB] at hxB
    have hyb : y < 18446744073709551616 := by omega
    obtain ⟨S, hSS⟩ : ∃ S, 2 ^ s = S := ⟨_, rfl⟩
    rw [hSS] at hS hS0 hoS hyB hmod hy
    have hmm : y % 4294967296 < 4294967296 := by omega
    have hd : y / 4294967296 < 4294967296 := by omega
    have ho2 : o < 4294967296 := by omega
    have hl1 : (natA .u32 (ds.set i (o + y % 4294967296))).length = n + 1 := by rw [natA_length, List.length_set, hlen]
    have hz' : (ds.set i (o + y % 4294967296))[i + 1]? = some 0 := by rw [List.getElem?_set_ne (by omega)]; exact hz
    simp (disch := omega) only [go_sem, Nat.reduceEqDiff, Nat.reduceBEq, ↓reduceIte, reduceCtorEq, h1, h5, h13, h14, h15, hm, hdl, hlen, hx, ho, shlV, hSS, hy, hl1, hz', wrapU32, wrapU32m, ↓intOr32, hor]
    exact key _ (by simp [upd_app, h1] <;> omega) (by simp [upd_app, h5] <;> omega) (by simp [upd_app, h13, natI] <;> omega) (by simp [upd_app, h14] <;> omega) (by simp [upd_app] <;> omega) (by simp [upd_app] <;> omega)
  · obtain rfl : i = n := by omega
    have ex : (enc B32 a).take i = enc B32 a := List.take_of_length_le (by omega)
    rw [ex, val_enc B32_gt] at hv
    simp (disch := omega) only [go_sem, Nat.reduceEqDiff, Nat.reduceBEq, ↓reduceIte, reduceCtorEq, h1, h5, h13, h14, h15, hm, hdl]
    have e3 : ds = shiftL a s := by
      rw [enc_pad B32_gt hq, hv, hlen, shiftL, hn]
    rw [← hQ]
    exact post_own (id := 0) (n := i + 1) (len := i + 1) (.inl rfl) rfl (by simp [upd_app] <;> omega) (by simp [hm]) (by simp [hm, natA_length, hlen]) (by simp [hm]) (by simp [hm]) (Nat.le_refl _) (by simp only [hm, natA_take]; rw [List.take_of_length_le (by omega), e3]) (by simp [hm, natA_length, hlen]) (by simp [hm]) (by simp [natA_pure]) rfl
theorem ci_takeAway : callable Tryz.prog 98 = true := by kernel_rfl
theorem take_step {B c l x t y : Nat} (hc : c < B) (ht : t < B) (hy : y < B) : (c + t * y) / B < B ∧ t * y ≤ (B - 1) * (B - 1) := by
 have h1 : t * y ≤ (B - 1) * (B - 1) := Nat.mul_le_mul (by omega) (by omega)
 refine ⟨?_, h1⟩
 rw [Nat.div_lt_iff_lt_mul (by omega)]
 obtain ⟨b, rfl⟩ : ∃ b, B = b + 1 := ⟨B - 1, by omega⟩
 simp only [Nat.add_sub_cancel] at h1
 have : (b + 1) * (b + 1) = b * b + 2 * b + 1 := by rw [Nat.mul_add, Nat.add_mul]; omega
 omega
theorem take_inv {B i c l x t y e l' D T W V : Nat} (h : D + t * V = W + B ^ i * (c + l)) (he : e + (c + t * y) % B + l = x + B * l') :
  (D + B ^ i * e) + t * (V + B ^ i * y) = (W + B ^ i * x) + B ^ (i + 1) * ((c + t * y) / B + l') := by
 have h1 : B ^ i * (e + (c + t * y) % B + l + B * ((c + t * y) / B)) = B ^ i * (x + B * l' + B * ((c + t * y) / B)) := by rw [he]
 have h2 : e + (c + t * y) % B + l + B * ((c + t * y) / B) = e + (c + t * y) + l := by have := Nat.mod_add_div (c + t * y) B; omega
 rw [h2] at h1
 have h3 : B ^ (i + 1) * ((c + t * y) / B + l') = B ^ i * (B * l' + B * ((c + t * y) / B)) := by rw [← Nat.mul_add, Nat.pow_succ, Nat.mul_assoc, Nat.add_comm l']
 have h4 : t * (V + B ^ i * y) = t * V + B ^ i * (t * y) := by rw [Nat.mul_add, Nat.mul_left_comm]
 rw [h3, h4]
 simp only [Nat.mul_add] at h1 ⊢
 simp only [Nat.mul_add] at h
 omega
theorem back_inv {B i c x y D W V : Nat} (h : D + B ^ i * c = W + V) : (D + B ^ i * ((c + x + y) % B)) + B ^ (i + 1) * ((c + x + y) / B) = (W + B ^ i * x) + (V + B ^ i * y) := by
 have h1 : B ^ i * ((c + x + y) % B + B * ((c + x + y) / B)) = B ^ i * (c + x + y) := by rw [Nat.mod_add_div]
 have h2 : B ^ (i + 1) * ((c + x + y) / B) = B ^ i * (B * ((c + x + y) / B)) := by rw [Nat.pow_succ, Nat.mul_assoc]
 rw [h2]
 rw [Nat.mul_add, Nat.mul_add (B ^ i) (c + x), Nat.mul_add (B ^ i) c] at h1
 omega
theorem take_fits {BL D V W t cl : Nat} (hD : D < BL) (h : D + t * V = W + BL * cl) (hcl : cl = 0) : ¬ W < t * V ∧ D = W - t * V := by subst hcl; simp at h; omega
theorem take_over {BL D V W t cl E c : Nat} (hD : D < BL) (hW : W < BL) (hE : E < BL) (h : D + t * V = W + BL * cl) (hcl : cl ≠ 0) (hle : t * V ≤ W + V) (hV : V ≤ BL) (h2 : E + BL * c = D + V) : W < t * V ∧ E = W + V - t * V := by
  have h1 : BL * 1 ≤ BL * cl := Nat.mul_le_mul_left _ (by omega)
  rw [Nat.mul_one] at h1
  refine ⟨by omega, ?_⟩
  have h3 : E + BL * c + t * V = W + BL * cl + V := by omega
  rcases Nat.lt_trichotomy c cl with h' | h' | h'
  · have : BL * (c + 1) ≤ BL * cl := Nat.mul_le_mul_left _ h'
    rw [Nat.mul_add, Nat.mul_one] at this; omega
  · subst h'; omega
  · have : BL * (cl + 1) ≤ BL * c := Nat.mul_le_mul_left _ h'
    rw [Nat.mul_add, Nat.mul_one] at this; omega
theorem getD_lt {B : Nat} (hB : 1 < B) {xs : List Nat} (h : ∀ d ∈ xs, d < B) (i : Nat) : xs.getD i 0 < B := by
  rw [List.getD_eq_getElem?_getD]
  by_cases hi : i < xs.length
  · rw [List.getElem?_eq_getElem hi]; exact h _ (List.getElem_mem hi)
  · rw [List.getElem?_eq_none (by omega)]; simp; omega
theorem getD_some {xs : List Nat} {i : Nat} (h : i < xs.length) : xs[i]? = some (xs.getD i 0) := by rw [List.getElem?_eq_getElem h, List.getD_eq_getElem?_getD, List.getElem?_eq_getElem h]; rfl
theorem getD_none {xs : List Nat} {i : Nat} (h : ¬ i < xs.length) : xs.getD i 0 = 0 := by rw [List.getD_eq_getElem?_getD, List.getElem?_eq_none (by omega)]; rfl
def awayV (W V t : Nat) : Nat := if W < t * V then W + V - t * V else W - t * V
theorem i_takeAway {fr : Nat → AV} {h : Nat → Blk} {nx id n : Nat} {pre ws post : List Nat} {ex gr : Bool} (b t : Nat) (hb : h id = ⟨114, natA .u32 (pre ++ ws ++ post), ex, gr, true⟩) (hn : (pre ++ ws ++ post).length = n)
    (hd : ∀ d ∈ ws, d < B32) (hl : (enc B32 b).length < ws.length) (hlen : n ≤ 1099511627777) (ht : t < B32) (hle : t * b ≤ val B32 ws + b) :
    InOk Tryz.prog ⟨fr, h, nx⟩ 98 [.ref id n pre.length ws.length, natI b, .int .u64 t] (.bool (decide (val B32 ws < t * b)))
      ⟨fr, upd h id ⟨114, natA .u32 (pre ++ padL B32 ws.length (awayV (val B32 ws) b t) ++ post), ex, gr, true⟩, nx⟩ := by
  refine inOk_of_wpc (W := fun _ => false) hm' Tryz.func98 rfl (by kernel_rfl) (Nat.le_of_ble_eq_true rfl) (go_start ?_)
  generalize hQ : PostIn Tryz.prog Tryz.f98 _ _ _ = Q
  have hB : B32 = 4294967296 := rfl
  obtain ⟨L, hL⟩ : ∃ L, ws.length = L := ⟨_, rfl⟩
  have hnn : pre.length + L + post.length = n := by simp at hn; omega
  have hbl : (natA .u32 (pre ++ ws ++ post)).length = n := by rw [natA_length, hn]
  simp (disch := omega) only [go_sem, Nat.reduceEqDiff, Nat.reduceBEq, ↓reduceIte, reduceCtorEq, hL, hb, hbl]
  have hWlt : val B32 ws < B32 ^ L := by rw [← hL]; exact val_lt hd
  have hVlt : b ≤ B32 ^ L := by
    have h1 := enc_len_pow B32_gt (n := b)
    have h2 := Nat.pow_le_pow_right (show 0 < B32 by decide) (show (enc B32 b).length ≤ L by omega)
    omega
  have key1 : ∀ st : St, ∀ ds : List Nat, ∀ e : Bool, ds.length = L → (∀ d ∈ ds, d < B32) → e = decide (val B32 ws < t * b) → val B32 ds = awayV (val B32 ws) b t → st.fr 6 = .bool e → st.h = upd h id ⟨114, natA .u32 (pre ++ ds ++ post), ex, gr, true⟩ → st.nx = nx → Q .ret st := by
    intro st ds e k1 k2 k3 k4 k5 k6 k7
    rw [← hQ]
    refine postIn_one (.inl rfl) rfl (by rw [k5, k3]) ?_ k7
    rw [k6, hL, pad_of B32_gt k2 k1 k4]
  refine k_loop (fun (p : Nat × Nat × Nat × List Nat) st => st.fr 0 = .ref id n pre.length L ∧ st.fr 1 = natI b ∧ st.fr 2 = .int .u64 t ∧ st.fr 7 = .int .u64 p.2.1 ∧ st.fr 8 = .int .i64 p.2.2.1 ∧ st.fr 12 = .ref id n pre.length L ∧ st.fr 13 = .int .i64 L ∧ st.fr 14 = .int .i64 p.1 ∧
      st.h = upd h id ⟨114, natA .u32 (pre ++ p.2.2.2 ++ post), ex, gr, true⟩ ∧ st.nx = nx ∧ p.2.2.2.length = L ∧ p.1 ≤ L ∧ p.2.1 < B32 ∧ p.2.2.1 ≤ 1 ∧ (∀ q ∈ p.2.2.2, q < B32) ∧ p.2.2.2.drop p.1 = ws.drop p.1 ∧
      val B32 (p.2.2.2.take p.1) + t * val B32 ((enc B32 b).take p.1) = val B32 (ws.take p.1) + B32 ^ p.1 * (p.2.1 + p.2.2.1)) (fun p => L - p.1) (0, 0, 0, ws)
    ⟨(by simp [upd_app] <;> omega), (by simp [upd_app, natI] <;> omega), (by simp [upd_app] <;> omega), (by simp [upd_app] <;> omega), (by simp [upd_app] <;> omega), (by simp [upd_app] <;> omega), (by simp [upd_app] <;> omega), (by simp [upd_app] <;> omega), by funext j; simp only [upd_app]; split <;> simp_all, rfl, hL, by simp, by simp [B32], by simp, hd, rfl, by simp [val]⟩ ?_
  clear hL hbl
  rintro ⟨i, c, l, ds⟩ ⟨fr1, h1, nx1⟩ ⟨h0, k1, h2, h7, h8, h12, h13, h14, eh, enx, hdl, hi, hc, hl1, hq, hdr, hv⟩ J hJ
  simp only [natI] at h0 k1 h2 h7 h8 h12 h13 h14 eh enx hdl hi hc hl1 hq hdr hv
  subst eh enx
  have hal : (natA .u32 (pre ++ ds ++ post)).length = n := by rw [natA_length]; simp; omega
  by_cases hin : i < L
  · obtain ⟨x, hx⟩ := get_some (xs := ds) (i := i) (by omega)
    have hxw : ws[i]? = some x := by
      have := congrArg (·[0]?) hdr
      simp only [List.getElem?_drop, Nat.add_zero] at this; rw [← this]; exact hx
    have hxB := hq x (List.mem_of_getElem? hx)
    have hrd := (mid_get (pre := pre) (post := post) (show i < ds.length by omega)).trans hx
    have hwr := fun e => mid_set (pre := pre) (post := post) (e := e) (show i < ds.length by omega)
    obtain ⟨y, hy⟩ : ∃ y, (enc B32 b).getD i 0 = y := ⟨_, rfl⟩
    have hyB : y < B32 := hy ▸ getD_lt B32_gt (enc_lt B32_gt b) i
    have hvy := val_take_or (B := B32) (xs := enc B32 b) (i := i)
    rw [hy] at hvy
    obtain ⟨s1, s2⟩ := take_step (l := l) (x := x) hc ht hyB
    obtain ⟨low, hlow⟩ : ∃ low, (c + t * y) % B32 = low := ⟨_, rfl⟩
    obtain ⟨c', hc'⟩ : ∃ c', (c + t * y) / B32 = c' := ⟨_, rfl⟩
    have hlowB : low < B32 := hlow ▸ Nat.mod_lt _ (by decide)
    have key : ∀ (e l' : Nat) (st : St), e < B32 → l' ≤ 1 → e + low + l = x + B32 * l' → st.fr 0 = .ref id n pre.length L → st.fr 1 = natI b → st.fr 2 = .int .u64 t → st.fr 7 = .int .u64 c' → st.fr 8 = .int .i64 l' → st.fr 12 = .ref id n pre.length L → st.fr 13 = .int .i64 L → st.fr 14 = .int .i64 ((i + 1 : Nat) : Int) →
        st.h = upd h id ⟨114, natA .u32 (pre ++ ds.set i e ++ post), ex, gr, true⟩ → st.nx = nx1 → J st := by
      intro e l' st he hl' hel r0 r1 r2 r7 r8 r12 r13 r14 rh rn
      refine hJ (i + 1, c', l', ds.set i e) st ⟨r0, r1, r2, r7, r8, r12, r13, r14, rh, rn, by simp [hdl], hin, hc' ▸ s1, hl', set_lt hq he, drop_set_succ hdr, ?_⟩ (by simp only; omega)
      simp only
      rw [val_take_set (by omega), hvy, val_take_succ hxw, ← hc']
      exact take_inv (T := 0) hv (by rw [hlow]; exact hel)
    clear hJ key1 hv s1 hvy hdr hd hWlt hVlt hle hl hxw hq
    obtain ⟨z, hz⟩ : ∃ z, t * y = z := ⟨_, rfl⟩
    rw [hz] at hlow hc' s2
    rw [hB] at hxB hyB hlow hc' hlowB hc ht s2
    have hupd : ∀ z w : Blk, upd (upd h id z) id w = upd h id w := by intro z w; funext j; simp only [upd_app]; split <;> rfl
    by_cases hiy : i < (enc B32 b).length
    · have hyw := getD_some hiy
      rw [hy] at hyw
      by_cases hneg : x < low + l
      · have hw3 : IntKind.u32.wrap ((x : Int) - (low : Int) - (l : Int)) = ((x + 4294967296 - low - l : Nat) : Int) := by rw [wrapU32neg (by omega) (by omega)]; omega
        simp (disch := omega) only [go_sem, Nat.reduceEqDiff, Nat.reduceBEq, ↓reduceIte, reduceCtorEq, h0, k1, h2, h7, h8, h12, h13, h14, hal, hrd, hwr, hyw, hz, hlow, hc', wrapU32, wrapU32m, hw3, hupd]
        exact key (x + 4294967296 - low - l) 1 _ (by rw [hB]; omega) (by omega) (by rw [hB]; omega) (by simp [upd_app, h0] <;> omega) (by simp [upd_app, k1, natI] <;> omega) (by simp [upd_app, h2] <;> omega) (by simp [upd_app] <;> omega) (by simp [upd_app] <;> omega) (by simp [upd_app, h12] <;> omega) (by simp [upd_app, h13] <;> omega) (by simp [upd_app] <;> omega) rfl rfl
      · have hw3 : IntKind.u32.wrap ((x : Int) - (low : Int) - (l : Int)) = ((x - low - l : Nat) : Int) := by rw [wrapU32 (by omega) (by omega)]; omega
        simp (disch := omega) only [go_sem, Nat.reduceEqDiff, Nat.reduceBEq, ↓reduceIte, reduceCtorEq, h0, k1, h2, h7, h8, h12, h13, h14, hal, hrd, hwr, hyw, hz, hlow, hc', wrapU32, wrapU32m, hw3, hupd]
        exact key (x - low - l) 0 _ (by rw [hB]; omega) (by omega) (by rw [hB]; omega) (by simp [upd_app, h0] <;> omega) (by simp [upd_app, k1, natI] <;> omega) (by simp [upd_app, h2] <;> omega) (by simp [upd_app] <;> omega) (by simp [upd_app] <;> omega) (by simp [upd_app, h12] <;> omega) (by simp [upd_app, h13] <;> omega) (by simp [upd_app] <;> omega) rfl rfl
    · have hyw := getD_none hiy
      rw [hy] at hyw
      have hz0 : z = 0 := by rw [← hz, hyw, Nat.mul_zero]
      rw [hz0, Nat.add_zero] at hlow hc'
      obtain rfl : low = c := by omega
      by_cases hneg : x < low + l
      · have hw3 : IntKind.u32.wrap ((x : Int) - (low : Int) - (l : Int)) = ((x + 4294967296 - low - l : Nat) : Int) := by rw [wrapU32neg (by omega) (by omega)]; omega
        simp (disch := omega) only [go_sem, Nat.reduceEqDiff, Nat.reduceBEq, ↓reduceIte, reduceCtorEq, h0, k1, h2, h7, h8, h12, h13, h14, hal, hrd, hwr, hlow, hc', wrapU32, wrapU32m, hw3, hupd]
        exact key (x + 4294967296 - low - l) 1 _ (by rw [hB]; omega) (by omega) (by rw [hB]; omega) (by simp [upd_app, h0] <;> omega) (by simp [upd_app, k1, natI] <;> omega) (by simp [upd_app, h2] <;> omega) (by simp [upd_app] <;> omega) (by simp [upd_app] <;> omega) (by simp [upd_app, h12] <;> omega) (by simp [upd_app, h13] <;> omega) (by simp [upd_app] <;> omega) rfl rfl
      · have hw3 : IntKind.u32.wrap ((x : Int) - (low : Int) - (l : Int)) = ((x - low - l : Nat) : Int) := by rw [wrapU32 (by omega) (by omega)]; omega
        simp (disch := omega) only [go_sem, Nat.reduceEqDiff, Nat.reduceBEq, ↓reduceIte, reduceCtorEq, h0, k1, h2, h7, h8, h12, h13, h14, hal, hrd, hwr, hlow, hc', wrapU32, wrapU32m, hw3, hupd]
        exact key (x - low - l) 0 _ (by rw [hB]; omega) (by omega) (by rw [hB]; omega) (by simp [upd_app, h0] <;> omega) (by simp [upd_app, k1, natI] <;> omega) (by simp [upd_app, h2] <;> omega) (by simp [upd_app] <;> omega) (by simp [upd_app] <;> omega) (by simp [upd_app, h12] <;> omega) (by simp [upd_app, h13] <;> omega) (by simp [upd_app] <;> omega) rfl rfl
  · obtain rfl : i = L := by omega
    have e1 : ds.take i = ds := List.take_of_length_le (by omega)
    have e2 : ws.take i = ws := List.take_of_length_le (by rw [← hdl]; have := congrArg List.length hdr; simp at this; omega)
    have e3 : (enc B32 b).take i = enc B32 b := List.take_of_length_le (by have := congrArg List.length hdr; simp at this; omega)
    rw [e1, e2, e3, val_enc B32_gt] at hv
    have hDlt : val B32 ds < B32 ^ i := by rw [← hdl]; exact val_lt hq
    by_cases hcl : c = 0 ∧ l = 0
    · obtain ⟨rfl, rfl⟩ := hcl
      obtain ⟨f1, f2⟩ := take_fits hDlt hv rfl
      simp (disch := omega) only [go_sem, Nat.reduceEqDiff, Nat.reduceBEq, ↓reduceIte, reduceCtorEq, h0, k1, h2, h7, h8, h12, h13, h14, hal]
      exact key1 _ ds false hdl hq (by simp [f1]) (by rw [awayV, if_neg f1, f2]) (by simp [upd_app] <;> omega) rfl rfl
    · have hcl0 : c + l ≠ 0 := by omega
      have hWi : val B32 ws < B32 ^ i := hWlt
      have fin := fun (es : List Nat) (cc : Nat) (hE : val B32 es < B32 ^ i) (h2 : val B32 es + B32 ^ i * cc = val B32 ds + b) => take_over hDlt hWi hE hv hcl0 hle hVlt h2
      have hlen0 : (enc B32 b).length ≤ i := by have := congrArg List.length hdr; simp at this; omega
      have hupd : ∀ z w : Blk, upd (upd h id z) id w = upd h id w := by intro z w; funext j; simp only [upd_app]; split <;> rfl
      obtain ⟨R, hR⟩ : ∃ R : Nat × Nat × List Nat → St → Prop, R = fun p st => st.fr 0 = .ref id n pre.length i ∧ st.fr 1 = natI b ∧ st.fr 7 = .int .u64 p.2.1 ∧ st.fr 57 = .ref id n pre.length i ∧ st.fr 58 = .int .i64 i ∧ st.fr 59 = .int .i64 p.1 ∧
            st.h = upd h id ⟨114, natA .u32 (pre ++ p.2.2 ++ post), ex, gr, true⟩ ∧ st.nx = nx1 ∧ p.2.2.length = i ∧ p.1 ≤ i ∧ p.2.1 ≤ 1 ∧ (∀ q ∈ p.2.2, q < B32) ∧ p.2.2.drop p.1 = ds.drop p.1 ∧ val B32 (p.2.2.take p.1) + B32 ^ p.1 * p.2.1 = val B32 (ds.take p.1) + val B32 ((enc B32 b).take p.1) := ⟨_, rfl⟩
      rcases (by omega : l = 1 ∨ (l = 0 ∧ c ≠ 0)) with rfl | ⟨rfl, hc0⟩
      · simp (disch := omega) only [go_sem, Nat.reduceEqDiff, Nat.reduceBEq, ↓reduceIte, reduceCtorEq, h0, k1, h2, h7, h8, h12, h13, h14, hal]
        refine k_loop R (fun p => i - p.1) (0, 0, ds) (by rw [hR]; exact ⟨(by simp [upd_app, h0] <;> omega), (by simp [upd_app, k1, natI] <;> omega), (by simp [upd_app] <;> omega), (by simp [upd_app] <;> omega), (by simp [upd_app] <;> omega), (by simp [upd_app] <;> omega), rfl, rfl, hdl, by simp, by simp, hq, rfl, by simp [val]⟩) ?_
        clear h0 k1 h2 h7 h8 h12 h13 h14
        rintro ⟨k, c2, es⟩ ⟨fr2, h2, nx2⟩ hst J2 hJ2
        rw [hR] at hst
        obtain ⟨h0, k1, h7, h57, h58, h59, eh, enx, hel, hk, hc2, hp, hdr2, hw⟩ := hst
        simp only [natI] at h0 k1 h7 h57 h58 h59 eh enx hel hk hc2 hp hdr2 hw
        subst eh enx
        have hal : (natA .u32 (pre ++ es ++ post)).length = n := by rw [natA_length]; simp; omega
        by_cases hki : k < i
        · obtain ⟨x, hx⟩ := get_some (xs := es) (i := k) (by omega)
          have hxd : ds[k]? = some x := by
            have := congrArg (·[0]?) hdr2
            simp only [List.getElem?_drop, Nat.add_zero] at this; rw [← this]; exact hx
          have hxB := hp x (List.mem_of_getElem? hx)
          have hrd := (mid_get (pre := pre) (post := post) (show k < es.length by omega)).trans hx
          have hwr := fun e => mid_set (pre := pre) (post := post) (e := e) (show k < es.length by omega)
          obtain ⟨y, hy⟩ : ∃ y, (enc B32 b).getD k 0 = y := ⟨_, rfl⟩
          have hyB : y < B32 := hy ▸ getD_lt B32_gt (enc_lt B32_gt b) k
          have hvy := val_take_or (B := B32) (xs := enc B32 b) (i := k)
          rw [hy] at hvy
          obtain ⟨s1, s2, _⟩ := add_step B32_gt hc2 hxB hyB
          have key : ∀ (st : St), st.fr 0 = .ref id n pre.length i → st.fr 1 = natI b → st.fr 7 = .int .u64 ((c2 + x + y) / 4294967296 : Nat) → st.fr 57 = .ref id n pre.length i → st.fr 58 = .int .i64 i → st.fr 59 = .int .i64 ((k + 1 : Nat) : Int) →
              st.h = upd h id ⟨114, natA .u32 (pre ++ es.set k ((c2 + x + y) % 4294967296) ++ post), ex, gr, true⟩ → st.nx = nx2 → J2 st := by
            intro st r0 r1 r7 r57 r58 r59 rh rn
            refine hJ2 (k + 1, (c2 + x + y) / B32, es.set k ((c2 + x + y) % B32)) st ?_ (by simp only; omega)
            rw [hR]
            refine ⟨r0, r1, r7, r57, r58, r59, rh, rn, by simp [hel], hki, s1, set_lt hp s2, drop_set_succ hdr2, ?_⟩
            simp only
            rw [val_take_set (by omega), hvy, val_take_succ hxd]
            exact back_inv hw
          clear hJ2 hJ key1 hv hw s1 s2 hvy hdr hdr2 hd hWlt hWi hVlt hle hl hxd hq hp fin hR hDlt
          rw [hB] at hxB hyB
          by_cases hky : k < (enc B32 b).length
          · have hyw := getD_some hky
            rw [hy] at hyw
            simp (disch := omega) only [go_sem, Nat.reduceEqDiff, Nat.reduceBEq, ↓reduceIte, reduceCtorEq, h0, k1, h7, h57, h58, h59, hal, hrd, hwr, hyw, wrapU32, wrapU32m, hupd]
            exact key _ (by simp [upd_app, h0] <;> omega) (by simp [upd_app, k1, natI] <;> omega) (by simp [upd_app] <;> omega) (by simp [upd_app, h57] <;> omega) (by simp [upd_app, h58] <;> omega) (by simp [upd_app] <;> omega) rfl rfl
          · have hyw := getD_none hky
            rw [hy] at hyw
            subst hyw
            simp only [Nat.add_zero] at key
            simp (disch := omega) only [go_sem, Nat.reduceEqDiff, Nat.reduceBEq, ↓reduceIte, reduceCtorEq, h0, k1, h7, h57, h58, h59, hal, hrd, hwr, wrapU32, wrapU32m, hupd]
            exact key _ (by simp [upd_app, h0] <;> omega) (by simp [upd_app, k1, natI] <;> omega) (by simp [upd_app] <;> omega) (by simp [upd_app, h57] <;> omega) (by simp [upd_app, h58] <;> omega) (by simp [upd_app] <;> omega) rfl rfl
        · obtain rfl : k = i := by omega
          have f1 : es.take k = es := List.take_of_length_le (by omega)
          rw [f1, e1, e3, val_enc B32_gt] at hw
          have hElt : val B32 es < B32 ^ k := by rw [← hel]; exact val_lt hp
          obtain ⟨g1, g2⟩ := fin es c2 hElt hw
          simp (disch := omega) only [go_sem, Nat.reduceEqDiff, Nat.reduceBEq, ↓reduceIte, reduceCtorEq, h0, k1, h7, h57, h58, h59, hal]
          exact key1 _ es true hel hp (by simp [g1]) (by rw [awayV, if_pos g1, g2]) (by simp [upd_app] <;> omega) rfl rfl
      · simp (disch := omega) only [go_sem, Nat.reduceEqDiff, Nat.reduceBEq, ↓reduceIte, reduceCtorEq, h0, k1, h2, h7, h8, h12, h13, h14, hal]
        refine k_loop R (fun p => i - p.1) (0, 0, ds) (by rw [hR]; exact ⟨(by simp [upd_app, h0] <;> omega), (by simp [upd_app, k1, natI] <;> omega), (by simp [upd_app] <;> omega), (by simp [upd_app] <;> omega), (by simp [upd_app] <;> omega), (by simp [upd_app] <;> omega), rfl, rfl, hdl, by simp, by simp, hq, rfl, by simp [val]⟩) ?_
        clear h0 k1 h2 h7 h8 h12 h13 h14
        rintro ⟨k, c2, es⟩ ⟨fr2, h2, nx2⟩ hst J2 hJ2
        rw [hR] at hst
        obtain ⟨h0, k1, h7, h57, h58, h59, eh, enx, hel, hk, hc2, hp, hdr2, hw⟩ := hst
        simp only [natI] at h0 k1 h7 h57 h58 h59 eh enx hel hk hc2 hp hdr2 hw
        subst eh enx
        have hal : (natA .u32 (pre ++ es ++ post)).length = n := by rw [natA_length]; simp; omega
        by_cases hki : k < i
        · obtain ⟨x, hx⟩ := get_some (xs := es) (i := k) (by omega)
          have hxd : ds[k]? = some x := by
            have := congrArg (·[0]?) hdr2
            simp only [List.getElem?_drop, Nat.add_zero] at this; rw [← this]; exact hx
          have hxB := hp x (List.mem_of_getElem? hx)
          have hrd := (mid_get (pre := pre) (post := post) (show k < es.length by omega)).trans hx
          have hwr := fun e => mid_set (pre := pre) (post := post) (e := e) (show k < es.length by omega)
          obtain ⟨y, hy⟩ : ∃ y, (enc B32 b).getD k 0 = y := ⟨_, rfl⟩
          have hyB : y < B32 := hy ▸ getD_lt B32_gt (enc_lt B32_gt b) k
          have hvy := val_take_or (B := B32) (xs := enc B32 b) (i := k)
          rw [hy] at hvy
          obtain ⟨s1, s2, _⟩ := add_step B32_gt hc2 hxB hyB
          have key : ∀ (st : St), st.fr 0 = .ref id n pre.length i → st.fr 1 = natI b → st.fr 7 = .int .u64 ((c2 + x + y) / 4294967296 : Nat) → st.fr 57 = .ref id n pre.length i → st.fr 58 = .int .i64 i → st.fr 59 = .int .i64 ((k + 1 : Nat) : Int) →
              st.h = upd h id ⟨114, natA .u32 (pre ++ es.set k ((c2 + x + y) % 4294967296) ++ post), ex, gr, true⟩ → st.nx = nx2 → J2 st := by
            intro st r0 r1 r7 r57 r58 r59 rh rn
            refine hJ2 (k + 1, (c2 + x + y) / B32, es.set k ((c2 + x + y) % B32)) st ?_ (by simp only; omega)
            rw [hR]
            refine ⟨r0, r1, r7, r57, r58, r59, rh, rn, by simp [hel], hki, s1, set_lt hp s2, drop_set_succ hdr2, ?_⟩
            simp only
            rw [val_take_set (by omega), hvy, val_take_succ hxd]
            exact back_inv hw
          clear hJ2 hJ key1 hv hw s1 s2 hvy hdr hdr2 hd hWlt hWi hVlt hle hl hxd hq hp fin hR hDlt
          rw [hB] at hxB hyB
          by_cases hky : k < (enc B32 b).length
          · have hyw := getD_some hky
            rw [hy] at hyw
            simp (disch := omega) only [go_sem, Nat.reduceEqDiff, Nat.reduceBEq, ↓reduceIte, reduceCtorEq, h0, k1, h7, h57, h58, h59, hal, hrd, hwr, hyw, wrapU32, wrapU32m, hupd]
            exact key _ (by simp [upd_app, h0] <;> omega) (by simp [upd_app, k1, natI] <;> omega) (by simp [upd_app] <;> omega) (by simp [upd_app, h57] <;> omega) (by simp [upd_app, h58] <;> omega) (by simp [upd_app] <;> omega) rfl rfl
          · have hyw := getD_none hky
            rw [hy] at hyw
            subst hyw
            simp only [Nat.add_zero] at key
            simp (disch := omega) only [go_sem, Nat.reduceEqDiff, Nat.reduceBEq, ↓reduceIte, reduceCtorEq, h0, k1, h7, h57, h58, h59, hal, hrd, hwr, wrapU32, wrapU32m, hupd]
            exact key _ (by simp [upd_app, h0] <;> omega) (by simp [upd_app, k1, natI] <;> omega) (by simp [upd_app] <;> omega) (by simp [upd_app, h57] <;> omega) (by simp [upd_app, h58] <;> omega) (by simp [upd_app] <;> omega) rfl rfl
        · obtain rfl : k = i := by omega
          have f1 : es.take k = es := List.take_of_length_le (by omega)
          rw [f1, e1, e3, val_enc B32_gt] at hw
          have hElt : val B32 es < B32 ^ k := by rw [← hel]; exact val_lt hp
          obtain ⟨g1, g2⟩ := fin es c2 hElt hw
          simp (disch := omega) only [go_sem, Nat.reduceEqDiff, Nat.reduceBEq, ↓reduceIte, reduceCtorEq, h0, k1, h7, h57, h58, h59, hal]
          exact key1 _ es true hel hp (by simp [g1]) (by rw [awayV, if_pos g1, g2]) (by simp [upd_app] <;> omega) rfl rfl
theorem c_TakeOff : callable Tryz.prog 89 = true := by kernel_rfl
theorem c_PutBack : callable Tryz.prog 90 = true := by kernel_rfl
def offA (W V d n : Nat) : List AV := if W < d * V then natA .i64 (padL B9 (n + 2) (W + B9 ^ (n + 2) - d * V)) ++ [.int .i64 (-1)] else natA .i64 (padL B9 (n + 3) (W - d * V))
theorem off_fits {D Bn V W Wl wt c d : Nat} (hD : D < Bn) (h : D + d * V = Wl + Bn * c) (hW : W = Wl + Bn * wt) (hc : c ≤ wt) : ¬ W < d * V ∧ D + Bn * (wt - c) = W - d * V := by
 obtain ⟨k, rfl⟩ : ∃ k, wt = c + k := ⟨wt - c, by omega⟩
 rw [Nat.mul_add] at hW
 rw [Nat.add_sub_cancel_left]; omega
theorem off_over {D Bn V W Wl wt c d : Nat} (hD : D < Bn) (h : D + d * V = Wl + Bn * c) (hW : W = Wl + Bn * wt) (hV : V < Bn) (hle : d * V ≤ W + V) (hc : ¬ c ≤ wt) : W < d * V ∧ c = wt + 1 ∧ D = W + Bn - d * V := by
  obtain ⟨k, rfl⟩ : ∃ k, c = wt + 1 + k := ⟨c - (wt + 1), by omega⟩
  rw [Nat.mul_add, Nat.mul_add, Nat.mul_one] at h
  rcases Nat.eq_zero_or_pos k with rfl | hk
  · refine ⟨?_, by omega, ?_⟩ <;> simp at h <;> omega
  · have : Bn * 1 ≤ Bn * k := Nat.mul_le_mul_left _ hk
    omega
theorem off_inv {B i c x y e c' D d W V : Nat} (h : D + d * V = W + B ^ i * c) (he : e + y * d + c = x + B * c') : (D + B ^ i * e) + d * (V + B ^ i * y) = (W + B ^ i * x) + B ^ (i + 1) * c' := by
 have h1 : B ^ i * (e + y * d + c) = B ^ i * (x + B * c') := by rw [he]
 have h3 : B ^ (i + 1) * c' = B ^ i * (B * c') := by rw [Nat.pow_succ, Nat.mul_assoc]
 have h4 : d * (V + B ^ i * y) = d * V + B ^ i * (y * d) := by rw [Nat.mul_add, Nat.mul_comm y d, Nat.mul_left_comm]
 rw [h3, h4]
 rw [Nat.mul_add, Nat.mul_add, Nat.mul_add] at h1
 omega
theorem natA_mid {k : IntKind} {pre ws post : List Nat} : natA k (pre ++ ws ++ post) = natA k pre ++ natA k ws ++ natA k post := by simp [natA]
theorem natA_inj_set {k : IntKind} {pre ds post : List Nat} {i : Nat} {v : AV} (h : i < ds.length) : (natA k (pre ++ ds ++ post)).set (pre.length + i) v = natA k pre ++ (natA k ds).set i v ++ natA k post := by
 rw [natA_mid, ← natA_length k pre, mid_set (by rw [natA_length]; exact h)]
set_option maxHeartbeats 2000000 in
theorem s_TakeOff {fr : Nat → AV} {h : Nat → Blk} {nx id n m : Nat} {pre ws post : List Nat} {ex gr : Bool} (b d : Nat) (hb : h id = ⟨2, natA .i64 (pre ++ ws ++ post), ex, gr, true⟩) (hn : (pre ++ ws ++ post).length = m)
    (hd : ∀ d ∈ ws, d < B9) (hl : (enc B9 b).length = n + 2) (hwl : ws.length = n + 3) (hlen : m ≤ 1099511627777) (ht : d < B9) (hle : d * b ≤ val B9 ws + b) :
    InOk Tryz.prog ⟨fr, h, nx⟩ 89 [.ref id m 0 m, natS b, .int .i64 pre.length, .int .i64 d] (.bool (decide (val B9 ws < d * b)))
      ⟨fr, upd h id ⟨2, natA .i64 pre ++ offA (val B9 ws) b d n ++ natA .i64 post, ex, gr, true⟩, nx⟩ := by
  refine inOk_of_wpc (W := fun _ => false) hm' Tryz.func89 rfl (by kernel_rfl) (Nat.le_of_ble_eq_true rfl) (go_start ?_)
  generalize hQ : PostIn Tryz.prog Tryz.f89 _ _ _ = Q
  have hB : B9 = 1000000000 := rfl
  have hnn : pre.length + (n + 3) + post.length = m := by simp at hn; omega
  have hupd : ∀ z w : Blk, upd (upd h id z) id w = upd h id w := by intro z w; funext j; simp only [upd_app]; split <;> rfl
  have hbN : b < B9 ^ (n + 2) := by rw [← hl]; exact enc_len_pow B9_gt
  obtain ⟨wt, hwt⟩ := get_some (xs := ws) (i := n + 2) (by omega)
  have hwtB := hd wt (List.mem_of_getElem? hwt)
  have hWs : val B9 ws = val B9 (ws.take (n + 2)) + B9 ^ (n + 2) * wt := by
    have := val_take_succ (B := B9) hwt
    rwa [List.take_of_length_le (by omega)] at this
  simp (disch := omega) only [go_sem, Nat.reduceEqDiff, Nat.reduceBEq, ↓reduceIte, reduceCtorEq, hl, natS]
  refine k_loop (fun (p : Nat × Nat × List Nat) st => st.fr 0 = .ref id m 0 m ∧ st.fr 1 = natS b ∧ st.fr 2 = .int .i64 pre.length ∧ st.fr 3 = .int .i64 d ∧ st.fr 9 = .int .i64 p.2.1 ∧ st.fr 13 = natS b ∧ st.fr 14 = .int .i64 ((n + 2 : Nat) : Int) ∧ st.fr 15 = .int .i64 p.1 ∧
      st.h = upd h id ⟨2, natA .i64 (pre ++ p.2.2 ++ post), ex, gr, true⟩ ∧ st.nx = nx ∧ p.2.2.length = n + 3 ∧ p.1 ≤ n + 2 ∧ p.2.1 ≤ B9 ∧ (∀ q ∈ p.2.2, q < B9) ∧ p.2.2.drop p.1 = ws.drop p.1 ∧
      val B9 (p.2.2.take p.1) + d * val B9 ((enc B9 b).take p.1) = val B9 (ws.take p.1) + B9 ^ p.1 * p.2.1) (fun p => n + 2 - p.1) (0, 0, ws)
    ⟨(by simp [upd_app] <;> omega), (by simp [upd_app, natS] <;> omega), (by simp [upd_app] <;> omega), (by simp [upd_app] <;> omega), (by simp [upd_app] <;> omega), (by simp [upd_app, natS] <;> omega), (by simp [upd_app] <;> omega), (by simp [upd_app] <;> omega), by funext j; simp only [upd_app]; split <;> simp_all, rfl, hwl, by simp, by simp, hd, rfl, by simp [val]⟩ ?_
  rintro ⟨i, c, ds⟩ ⟨fr1, h1, nx1⟩ ⟨h0, k1, h2, h3, h9, h13, h14, h15, eh, enx, hdl, hi, hc, hq, hdr, hv⟩ J hJ
  simp only [natS] at h0 k1 h2 h3 h9 h13 h14 h15 eh enx hdl hi hc hq hdr hv
  subst eh enx
  have hal : (natA .i64 (pre ++ ds ++ post)).length = m := by rw [natA_length]; simp; omega
  by_cases hin : i < n + 2
  · obtain ⟨x, hx⟩ := get_some (xs := ds) (i := i) (by omega)
    have hxw : ws[i]? = some x := by
      have := congrArg (·[0]?) hdr
      simp only [List.getElem?_drop, Nat.add_zero] at this; rw [← this]; exact hx
    have hxB := hq x (List.mem_of_getElem? hx)
    have hrd := (mid_get (pre := pre) (post := post) (show i < ds.length by omega)).trans hx
    have hwr := fun e => mid_set (pre := pre) (post := post) (e := e) (show i < ds.length by omega)
    obtain ⟨y, hy⟩ := get_some (xs := enc B9 b) (i := i) (by omega)
    have hyB := enc_lt B9_gt b y (List.mem_of_getElem? hy)
    have hvy := val_take_succ (B := B9) hy
    obtain ⟨z, hz⟩ : ∃ z, y * d = z := ⟨_, rfl⟩
    have hzb : z ≤ 999999999 * 999999999 := by rw [← hz]; exact Nat.mul_le_mul (by rw [hB] at hyB; omega) (by rw [hB] at ht; omega)
    have key : ∀ (e c' : Nat) (st : St), e < B9 → c' ≤ B9 → e + z + c = x + B9 * c' → st.fr 0 = .ref id m 0 m → st.fr 1 = natS b → st.fr 2 = .int .i64 pre.length → st.fr 3 = .int .i64 d → st.fr 9 = .int .i64 c' → st.fr 13 = natS b → st.fr 14 = .int .i64 ((n + 2 : Nat) : Int) → st.fr 15 = .int .i64 ((i + 1 : Nat) : Int) →
        st.h = upd h id ⟨2, natA .i64 (pre ++ ds.set i e ++ post), ex, gr, true⟩ → st.nx = nx1 → J st := by
      intro e c' st he hc' hel r0 r1 r2 r3 r9 r13 r14 r15 rh rn
      refine hJ (i + 1, c', ds.set i e) st ⟨r0, r1, r2, r3, r9, r13, r14, r15, rh, rn, by simp [hdl], hin, hc', set_lt hq he, drop_set_succ hdr, ?_⟩ (by simp only; omega)
      simp only
      rw [val_take_set (by omega), hvy, val_take_succ hxw]
      exact off_inv hv (by rw [hz]; exact hel)
    clear hJ hv hvy hdr hd hle hxw hq hWs hwt hwtB hbN hn hQ
    rw [hB] at hxB hyB hc ht key
    obtain ⟨q, hq⟩ : ∃ q, z / 1000000000 = q := ⟨_, rfl⟩
    obtain ⟨r, hr⟩ : ∃ r, z % 1000000000 = r := ⟨_, rfl⟩
    have hzz : z = 1000000000 * q + r := by omega
    have hrb : r < 1000000000 := by omega
    have hqb : q ≤ 999999998 := by omega
    by_cases hn1 : x < r + c
    · by_cases hn2 : x + 1000000000 < r + c
      · have w1 : (x : Int) - (r : Int) - (c : Int) + 1000000000 + 1000000000 = ((x + 2000000000 - r - c : Nat) : Int) := by omega
        simp (disch := omega) only [go_sem, Nat.reduceEqDiff, Nat.reduceBEq, ↓reduceIte, reduceCtorEq, h0, k1, h2, h3, h9, h13, h14, h15, hal, hrd, hy, hz, hq, hr, w1, hwr, hupd]
        exact key (x + 2000000000 - r - c) (q + 1 + 1) _ (by omega) (by omega) (by omega) (by simp [upd_app, h0] <;> omega) (by simp [upd_app, k1, natS] <;> omega) (by simp [upd_app, h2] <;> omega) (by simp [upd_app, h3] <;> omega) (by simp [upd_app] <;> omega) (by simp [upd_app, h13, natS] <;> omega) (by simp [upd_app, h14] <;> omega) (by simp [upd_app] <;> omega) rfl rfl
      · have w1 : (x : Int) - (r : Int) - (c : Int) + 1000000000 = ((x + 1000000000 - r - c : Nat) : Int) := by omega
        simp (disch := omega) only [go_sem, Nat.reduceEqDiff, Nat.reduceBEq, ↓reduceIte, reduceCtorEq, h0, k1, h2, h3, h9, h13, h14, h15, hal, hrd, hy, hz, hq, hr, w1, hwr, hupd]
        exact key (x + 1000000000 - r - c) (q + 1) _ (by omega) (by omega) (by omega) (by simp [upd_app, h0] <;> omega) (by simp [upd_app, k1, natS] <;> omega) (by simp [upd_app, h2] <;> omega) (by simp [upd_app, h3] <;> omega) (by simp [upd_app] <;> omega) (by simp [upd_app, h13, natS] <;> omega) (by simp [upd_app, h14] <;> omega) (by simp [upd_app] <;> omega) rfl rfl
    · have w1 : (x : Int) - (r : Int) - (c : Int) = ((x - r - c : Nat) : Int) := by omega
      simp (disch := omega) only [go_sem, Nat.reduceEqDiff, Nat.reduceBEq, ↓reduceIte, reduceCtorEq, h0, k1, h2, h3, h9, h13, h14, h15, hal, hrd, hy, hz, hq, hr, w1, hwr, hupd]
      exact key (x - r - c) q _ (by omega) (by omega) (by omega) (by simp [upd_app, h0] <;> omega) (by simp [upd_app, k1, natS] <;> omega) (by simp [upd_app, h2] <;> omega) (by simp [upd_app, h3] <;> omega) (by simp [upd_app] <;> omega) (by simp [upd_app, h13, natS] <;> omega) (by simp [upd_app, h14] <;> omega) (by simp [upd_app] <;> omega) rfl rfl
  · obtain rfl : i = n + 2 := by omega
    have e1 : (enc B9 b).take (n + 2) = enc B9 b := List.take_of_length_le (by omega)
    rw [e1, val_enc B9_gt] at hv
    have hlt : ((ds.take (n + 2)).length) = n + 2 := by simp; omega
    have hDlt : val B9 (ds.take (n + 2)) < B9 ^ (n + 2) := by
      have := val_lt (B := B9) (xs := ds.take (n + 2)) (fun q hq' => hq q (List.mem_of_mem_take hq')); rwa [hlt] at this
    have hdt : ds[n + 2]? = some wt := by
      have := congrArg (·[0]?) hdr
      simp only [List.getElem?_drop, Nat.add_zero] at this; rw [this]; exact hwt
    have hrd := (mid_get (pre := pre) (post := post) (show n + 2 < ds.length by omega)).trans hdt
    have hds : ds = ds.take (n + 2) ++ [wt] := by
      conv => lhs; rw [← List.take_append_drop (n + 2) ds, drop_cons hdt, List.drop_eq_nil_of_le (by omega)]
    have hset : ∀ v : AV, (natA .i64 (pre ++ ds ++ post)).set (pre.length + (n + 2)) v = natA .i64 pre ++ (natA .i64 (ds.take (n + 2)) ++ [v]) ++ natA .i64 post := by
      intro v
      rw [natA_inj_set (by omega)]
      congr 2
      conv => lhs; rw [hds]
      rw [← natA_append, List.set_append_right _ _ (by rw [natA_length]; omega), natA_length, hlt, Nat.sub_self]; rfl
    have hget : ∀ v : AV, (natA .i64 pre ++ (natA .i64 (ds.take (n + 2)) ++ [v]) ++ natA .i64 post)[pre.length + (n + 2)]? = some v := by
      intro v
      have := mid_get (pre := natA .i64 pre) (ds := natA .i64 (ds.take (n + 2)) ++ [v]) (post := natA .i64 post) (i := n + 2) (by rw [List.length_append, natA_length, hlt]; simp)
      rw [natA_length] at this
      rw [this, List.getElem?_append_right (by rw [natA_length]; omega), natA_length, hlt, Nat.sub_self]; rfl
    have hlen2 : ∀ v : AV, (natA .i64 pre ++ (natA .i64 (ds.take (n + 2)) ++ [v]) ++ natA .i64 post).length = m := by
      intro v; simp [natA_length]; omega
    have key : ∀ (e : Bool) (v : AV) (st : St), st.fr 8 = .bool e → st.h = upd h id ⟨2, natA .i64 pre ++ (natA .i64 (ds.take (n + 2)) ++ [v]) ++ natA .i64 post, ex, gr, true⟩ → st.nx = nx1 →
        e = decide (val B9 ws < d * b) → natA .i64 (ds.take (n + 2)) ++ [v] = offA (val B9 ws) b d n → Q .ret st := by
      intro e v st r8 rh rn he hv'
      rw [← hQ]
      exact postIn_one (.inl rfl) rfl (by rw [r8, he]) (by rw [rh, hv']) rn
    have hqt : ∀ q ∈ ds.take (n + 2), q < B9 := fun q hq' => hq q (List.mem_of_mem_take hq')
    rw [hB] at hc hwtB
    have hl2 := hl
    by_cases hcw : c ≤ wt
    · obtain ⟨f1, f2⟩ := off_fits hDlt hv hWs hcw
      have w1 : (wt : Int) - (c : Int) = ((wt - c : Nat) : Int) := by omega
      have hdc : false = decide (val B9 ws < d * b) := by simp [f1]
      have hfin : natA .i64 (ds.take (n + 2)) ++ [AV.int .i64 ((wt - c : Nat) : Int)] = offA (val B9 ws) b d n := by
        rw [offA, if_neg f1, natA_snoc]
        congr 1
        refine pad_of B9_gt (fun q hq' => ?_) (by simp [hlt]) (by rw [val_append, hlt]; simp [val]; exact f2)
        rcases List.mem_append.1 hq' with h' | h'
        · exact hqt q h'
        · simp at h'; rw [h', hB]; omega
      have hg3 := hget (.int .i64 ((wt - c : Nat) : Int))
      have hl3 := hlen2 (.int .i64 ((wt - c : Nat) : Int))
      simp only [natA_snoc, natA_append] at hg3 hl3
      rw [natA_length] at hl3
      rw [natA_at] at hg3
      obtain ⟨z, hz, hz2⟩ := Option.map_eq_some_iff.1 hg3
      obtain rfl : z = wt - c := by injection hz2; omega
      clear hJ hv hWs hle hdr hds hd hl f1 f2 hqt hq hDlt hbN hQ
      simp (disch := omega) only [go_sem, Nat.reduceEqDiff, Nat.reduceBEq, ↓reduceIte, reduceCtorEq, h0, k1, h2, h3, h9, h13, h14, h15, hal, hl2, natA_length, hrd, w1, hset, hl3, hz, hupd]
      exact key false (.int .i64 ((wt - c : Nat) : Int)) _ (by simp [upd_app] <;> omega) (by simp only [natA_snoc, natA_append]) rfl hdc hfin
    · obtain ⟨f1, f2, f3⟩ := off_over hDlt hv hWs hbN hle hcw
      have w1 : (wt : Int) - (c : Int) = -1 := by omega
      have hfin : natA .i64 (ds.take (n + 2)) ++ [AV.int .i64 (-1)] = offA (val B9 ws) b d n := by
        rw [offA, if_pos f1]
        congr 2
        exact pad_of B9_gt hqt hlt f3
      have hdc : true = decide (val B9 ws < d * b) := by simp [f1]
      clear hJ hv hWs hle hdr hds hd hl f1 f2 f3 hqt hq hDlt hbN hQ
      simp (disch := omega) only [go_sem, Nat.reduceEqDiff, Nat.reduceBEq, ↓reduceIte, reduceCtorEq, h0, k1, h2, h3, h9, h13, h14, h15, hal, hl2, natA_length, hrd, w1, hset, hget, hlen2, hupd]
      exact key true (.int .i64 (-1)) _ (by simp [upd_app] <;> omega) rfl rfl hdc hfin
theorem put_c {Pw d w b c : Nat} (h : d + Pw * c = w + b) (h1 : d < Pw) (h2 : Pw ≤ w + b) (hc : c ≤ 1) : c = 1 := by
  rcases Nat.eq_zero_or_pos c with rfl | h'
  · simp at h; omega
  · omega
theorem put_v {Pw d w b : Nat} (h : d + Pw * 1 = w + b) : d = w + b - Pw := by omega
theorem postIn_none {P : Program} {fn : Func} {st : St} {e : Ex} {h' : Nat → Blk} {nx' : Nat} (he : e = .ret ∨ e = .normal) (hr : fn.results.toList = []) (h1 : st.h = h') (h2 : st.nx = nx') : PostIn P fn (.tup []) h' nx' e st :=
 ⟨by rcases he with rfl | rfl <;> trivial, by rw [hr]; simp [resV, resL], h1, h2⟩
theorem s_PutBack {fr : Nat → AV} {h : Nat → Blk} {nx id n m : Nat} {pre ws post : List Nat} {ex gr : Bool} (b : Nat) (hb : h id = ⟨2, natA .i64 pre ++ (natA .i64 ws ++ [.int .i64 (-1)]) ++ natA .i64 post, ex, gr, true⟩) (hn : pre.length + (n + 3) + post.length = m)
    (hd : ∀ d ∈ ws, d < B9) (hl : (enc B9 b).length = n + 2) (hwl : ws.length = n + 2) (hlen : m ≤ 1099511627777) (hge : B9 ^ (n + 2) ≤ val B9 ws + b) :
    InOk Tryz.prog ⟨fr, h, nx⟩ 90 [.ref id m 0 m, natS b, .int .i64 pre.length] (.tup [])
      ⟨fr, upd h id ⟨2, natA .i64 (pre ++ padL B9 (n + 3) (val B9 ws + b - B9 ^ (n + 2)) ++ post), ex, gr, true⟩, nx⟩ := by
  refine inOk_of_wpc (W := fun _ => false) hm' Tryz.func90 rfl (by kernel_rfl) (Nat.le_of_ble_eq_true rfl) (go_start ?_)
  generalize hQ : PostIn Tryz.prog Tryz.f90 _ _ _ = Q
  have hB : B9 = 1000000000 := rfl
  have hupd : ∀ z w : Blk, upd (upd h id z) id w = upd h id w := by intro z w; funext j; simp only [upd_app]; split <;> rfl
  have hbN : b < B9 ^ (n + 2) := by rw [← hl]; exact enc_len_pow B9_gt
  have hwN : val B9 ws < B9 ^ (n + 2) := by rw [← hwl]; exact val_lt hd
  have bl : ∀ (ds : List Nat) (v : AV), ds.length = n + 2 → (natA .i64 pre ++ (natA .i64 ds ++ [v]) ++ natA .i64 post).length = m := by intro ds v h; simp [natA_length]; omega
  have bg : ∀ (ds : List Nat) (v : AV) (i : Nat), ds.length = n + 2 → i < n + 2 → (natA .i64 pre ++ (natA .i64 ds ++ [v]) ++ natA .i64 post)[pre.length + i]? = (ds[i]?).map fun n : Nat => AV.int .i64 n := by
    intro ds v i h hi
    have := mid_get (pre := natA .i64 pre) (ds := natA .i64 ds ++ [v]) (post := natA .i64 post) (i := i) (by simp [natA_length]; omega)
    rw [natA_length] at this
    rw [this, List.getElem?_append_left (by rw [natA_length]; omega), natA_at]
  have bs : ∀ (ds : List Nat) (v : AV) (i e : Nat), ds.length = n + 2 → i < n + 2 → (natA .i64 pre ++ (natA .i64 ds ++ [v]) ++ natA .i64 post).set (pre.length + i) (.int .i64 e) = natA .i64 pre ++ (natA .i64 (ds.set i e) ++ [v]) ++ natA .i64 post := by
    intro ds v i e h hi
    have := mid_set (pre := natA .i64 pre) (ds := natA .i64 ds ++ [v]) (post := natA .i64 post) (i := i) (e := AV.int .i64 (e : Int)) (by simp [natA_length]; omega)
    rw [natA_length] at this
    rw [this, List.set_append_left _ _ (by rw [natA_length]; omega), natA_put]
  have bt : ∀ (ds : List Nat) (v : AV), ds.length = n + 2 → (natA .i64 pre ++ (natA .i64 ds ++ [v]) ++ natA .i64 post)[pre.length + (n + 2)]? = some v := by
    intro ds v h
    have := mid_get (pre := natA .i64 pre) (ds := natA .i64 ds ++ [v]) (post := natA .i64 post) (i := n + 2) (by simp [natA_length]; omega)
    rw [natA_length] at this
    rw [this, List.getElem?_append_right (by rw [natA_length]; omega), natA_length, h, Nat.sub_self]; rfl
  have bz : ∀ (ds : List Nat) (v w : AV), ds.length = n + 2 → (natA .i64 pre ++ (natA .i64 ds ++ [v]) ++ natA .i64 post).set (pre.length + (n + 2)) w = natA .i64 pre ++ (natA .i64 ds ++ [w]) ++ natA .i64 post := by
    intro ds v w h
    have := mid_set (pre := natA .i64 pre) (ds := natA .i64 ds ++ [v]) (post := natA .i64 post) (i := n + 2) (e := w) (by simp [natA_length]; omega)
    rw [natA_length] at this
    rw [this, List.set_append_right _ _ (by rw [natA_length]; omega), natA_length, h, Nat.sub_self]; rfl
  simp (disch := omega) only [go_sem, Nat.reduceEqDiff, Nat.reduceBEq, ↓reduceIte, reduceCtorEq, hl, natS]
  refine k_loop (fun (p : Nat × Nat × List Nat) st => st.fr 0 = .ref id m 0 m ∧ st.fr 1 = natS b ∧ st.fr 2 = .int .i64 pre.length ∧ st.fr 6 = .int .i64 p.2.1 ∧ st.fr 10 = natS b ∧ st.fr 11 = .int .i64 ((n + 2 : Nat) : Int) ∧ st.fr 12 = .int .i64 p.1 ∧
      st.h = upd h id ⟨2, natA .i64 pre ++ (natA .i64 p.2.2 ++ [.int .i64 (-1)]) ++ natA .i64 post, ex, gr, true⟩ ∧ st.nx = nx ∧ p.2.2.length = n + 2 ∧ p.1 ≤ n + 2 ∧ p.2.1 ≤ 1 ∧ (∀ q ∈ p.2.2, q < B9) ∧ p.2.2.drop p.1 = ws.drop p.1 ∧
      val B9 (p.2.2.take p.1) + B9 ^ p.1 * p.2.1 = val B9 (ws.take p.1) + val B9 ((enc B9 b).take p.1)) (fun p => n + 2 - p.1) (0, 0, ws)
    ⟨(by simp [upd_app] <;> omega), (by simp [upd_app, natS] <;> omega), (by simp [upd_app] <;> omega), (by simp [upd_app] <;> omega), (by simp [upd_app, natS] <;> omega), (by simp [upd_app] <;> omega), (by simp [upd_app] <;> omega), by funext j; simp only [upd_app]; split <;> simp_all, rfl, hwl, by simp, by simp, hd, rfl, by simp [val]⟩ ?_
  rintro ⟨i, c, ds⟩ ⟨fr1, h1, nx1⟩ ⟨h0, k1, h2, h6, h10, h11, h12, eh, enx, hdl, hi, hc, hq, hdr, hv⟩ J hJ
  simp only [natS] at h0 k1 h2 h6 h10 h11 h12 eh enx hdl hi hc hq hdr hv
  subst eh enx
  have hal := bl ds (.int .i64 (-1)) hdl
  by_cases hin : i < n + 2
  · obtain ⟨x, hx⟩ := get_some (xs := ds) (i := i) (by omega)
    have hxw : ws[i]? = some x := by
      have := congrArg (·[0]?) hdr
      simp only [List.getElem?_drop, Nat.add_zero] at this; rw [← this]; exact hx
    have hxB := hq x (List.mem_of_getElem? hx)
    have hrd := bg ds (.int .i64 (-1)) i hdl hin
    have hwr := fun e => bs ds (.int .i64 (-1)) i e hdl hin
    obtain ⟨y, hy⟩ := get_some (xs := enc B9 b) (i := i) (by omega)
    have hyB := enc_lt B9_gt b y (List.mem_of_getElem? hy)
    have hvy := val_take_succ (B := B9) hy
    obtain ⟨s1, s2, _⟩ := add_step B9_gt hc hxB hyB
    have key : ∀ (st : St), st.fr 0 = .ref id m 0 m → st.fr 1 = natS b → st.fr 2 = .int .i64 pre.length → st.fr 6 = .int .i64 ((x + y + c) / 1000000000 : Nat) → st.fr 10 = natS b → st.fr 11 = .int .i64 ((n + 2 : Nat) : Int) → st.fr 12 = .int .i64 ((i + 1 : Nat) : Int) →
        st.h = upd h id ⟨2, natA .i64 pre ++ (natA .i64 (ds.set i ((x + y + c) % 1000000000)) ++ [.int .i64 (-1)]) ++ natA .i64 post, ex, gr, true⟩ → st.nx = nx1 → J st := by
      intro st r0 r1 r2 r6 r10 r11 r12 rh rn
      have e : x + y + c = c + x + y := by omega
      rw [e] at r6 rh
      refine hJ (i + 1, (c + x + y) / B9, ds.set i ((c + x + y) % B9)) st ⟨r0, r1, r2, r6, r10, r11, r12, rh, rn, by simp [hdl], hin, s1, set_lt hq s2, drop_set_succ hdr, ?_⟩ (by simp only; omega)
      simp only
      rw [val_take_set (by omega), hvy, val_take_succ hxw]
      exact back_inv hv
    clear hJ hv hvy hdr hd hxw hq hbN hwN hge hQ s1 s2 bl bg bs bt bz
    rw [hB] at hxB hyB
    simp (disch := omega) only [go_sem, Nat.reduceEqDiff, Nat.reduceBEq, ↓reduceIte, reduceCtorEq, h0, k1, h2, h6, h10, h11, h12, hal, hrd, hx, hy, hwr, hupd]
    exact key _ (by simp [upd_app, h0] <;> omega) (by simp [upd_app, k1, natS] <;> omega) (by simp [upd_app, h2] <;> omega) (by simp [upd_app] <;> omega) (by simp [upd_app, h10, natS] <;> omega) (by simp [upd_app, h11] <;> omega) (by simp [upd_app] <;> omega) rfl rfl
  · obtain rfl : i = n + 2 := by omega
    have e1 : (enc B9 b).take (n + 2) = enc B9 b := List.take_of_length_le (by omega)
    have e2 : ds.take (n + 2) = ds := List.take_of_length_le (by omega)
    have e3 : ws.take (n + 2) = ws := List.take_of_length_le (by omega)
    rw [e1, e2, e3, val_enc B9_gt] at hv
    have hdN : val B9 ds < B9 ^ (n + 2) := by rw [← hdl]; exact val_lt hq
    have hc1 : c = 1 := put_c hv hdN hge hc
    subst hc1
    have hget := bt ds (.int .i64 (-1)) hdl
    have hset := fun w => bz ds (.int .i64 (-1)) w hdl
    have w1 : (-1 : Int) + ((1 : Nat) : Int) = 0 := by omega
    have hfin : natA .i64 pre ++ (natA .i64 ds ++ [AV.int .i64 0]) ++ natA .i64 post = natA .i64 (pre ++ padL B9 (n + 3) (val B9 ws + b - B9 ^ (n + 2)) ++ post) := by
      have : padL B9 (n + 3) (val B9 ws + b - B9 ^ (n + 2)) = ds ++ [0] := by
        refine (pad_of B9_gt (fun q hq' => ?_) (by simp [hdl]) (by rw [val_append]; simp only [val, Nat.mul_zero, Nat.add_zero]; exact put_v hv)).symm
        rcases List.mem_append.1 hq' with h' | h'
        · exact hq q h'
        · simp at h'; rw [h', hB]; omega
      rw [this]; simp [natA]
    clear hJ hv hdr hd hq hbN hwN hge bl bg bs bt bz hdN
    have hl2 := hl
    simp (disch := omega) only [go_sem, Nat.reduceEqDiff, Nat.reduceBEq, ↓reduceIte, reduceCtorEq, h0, k1, h2, h6, h10, h11, h12, hal, hget, hset, hl2, natA_length, w1, hupd]
    rw [← hQ]
    exact postIn_none (.inr rfl) rfl (by rw [hfin]) rfl
section
theorem split3 {α : Type} (us : List α) (j n : Nat) : us = us.take j ++ (us.drop j).take n ++ us.drop (j + n) := by
 conv => lhs; rw [← List.take_append_drop j us, ← List.take_append_drop n (us.drop j), List.drop_drop]
 rw [List.append_assoc]
structure Nrm (B n V : Nat) : Prop where
 B0 : 1 < B
 len : (enc B V).length = n + 2
 half : ∀ t, (enc B V)[n + 1]? = some t → B ≤ 2 * t
theorem Nrm.pos {B n V : Nat} (h : Nrm B n V) : 0 < V := by
  rcases Nat.eq_zero_or_pos V with rfl | hp
  · have := h.len; rw [enc_zero] at this; simp at this
  · exact hp
theorem Nrm.lt {B n V : Nat} (h : Nrm B n V) : V < B ^ (n + 2) := by rw [← h.len]; exact enc_len_pow h.B0
structure Kn (B V U M n i : Nat) (us qs : List Nat) : Prop where
 lt : ∀ d ∈ us, d < B
 len : us.length = M + (n + 2)
 iM : i ≤ M
 qlt : ∀ d ∈ qs, d < B
 qlen : i + qs.length = M
 top : val B us / B ^ i < V
 sum : val B us + V * B ^ i * val B qs = U
section
variable {B V U M n j : Nat} {us qs : List Nat}
theorem Kn.win (h : Kn B V U M n (j + 1) us qs) (hN : Nrm B n V) : ((us.drop j).take (n + 3)).length = n + 3 ∧ (∀ d ∈ (us.drop j).take (n + 3), d < B) ∧ val B ((us.drop j).take (n + 3)) < V * B ∧ val B (us.drop (j + (n + 3))) = 0 ∧ val B ((us.drop j).take (n + 3)) = val B us / B ^ j := by
 have hB := hN.B0
 have hl := h.len; have hi := h.iM
 have hp : 0 < B ^ j := Nat.pow_pos (by omega)
 have h1 : val B us / B ^ j < V * B := by
  have := h.top
  rw [Nat.pow_succ, ← Nat.div_div_eq_div_mul] at this
  exact (Nat.div_lt_iff_lt_mul (by omega)).1 this
 have hV := hN.lt
 have h2 : V * B ≤ B ^ (n + 3) := by rw [show n + 3 = n + 2 + 1 by omega, Nat.pow_succ B]; exact Nat.mul_le_mul_right _ (Nat.le_of_lt hV)
 have h3 : val B ((us.drop j).take (n + 3)) = val B us / B ^ j := by
  rw [val_take hB (fun d hd => h.lt d (List.mem_of_mem_drop hd)), val_drop hB h.lt, Nat.mod_eq_of_lt (by omega)]
 refine ⟨by simp; omega, fun d hd => h.lt d (List.mem_of_mem_drop (List.mem_of_mem_take hd)), by rw [h3]; exact h1, ?_, h3⟩
 rw [val_drop hB h.lt, Nat.pow_add, ← Nat.div_div_eq_div_mul]
 exact Nat.div_eq_of_lt (by omega)
theorem Kn.digs (h : Kn B V U M n (j + 1) us qs) (hN : Nrm B n V) : ∃ top next u1 u2 u3, (enc B V)[n + 1]? = some top ∧ (enc B V)[n]? = some next ∧ us[j + (n + 2)]? = some u1 ∧ us[j + (n + 1)]? = some u2 ∧ us[j + n]? = some u3 ∧
  top < B ∧ next < B ∧ u1 < B ∧ u2 < B ∧ u3 < B ∧ Digs B (B ^ n) V (val B ((us.drop j).take (n + 3))) top next (u1 * B + u2) u3 := by
 have hl := h.len; have hi := h.iM; have hVl := hN.len
 obtain ⟨top, ht⟩ := get_some (xs := enc B V) (i := n + 1) (by omega)
 obtain ⟨next, hn⟩ := get_some (xs := enc B V) (i := n) (by omega)
 obtain ⟨u1, h1⟩ := get_some (xs := us) (i := j + (n + 2)) (by omega)
 obtain ⟨u2, h2⟩ := get_some (xs := us) (i := j + (n + 1)) (by omega)
 obtain ⟨u3, h3⟩ := get_some (xs := us) (i := j + n) (by omega)
 obtain ⟨w1, w2, w3, w4, w5⟩ := h.win hN
 have e := fun k (hk : k < n + 3) => show ((us.drop j).take (n + 3))[k]? = us[j + k]? by rw [List.getElem?_take, if_pos hk, List.getElem?_drop]
 exact ⟨top, next, u1, u2, u3, ht, hn, h1, h2, h3, enc_lt hN.B0 V _ (List.mem_of_getElem? ht), enc_lt hN.B0 V _ (List.mem_of_getElem? hn), h.lt _ (List.mem_of_getElem? h1), h.lt _ (List.mem_of_getElem? h2), h.lt _ (List.mem_of_getElem? h3),
  digs_of hN.B0 (enc_lt hN.B0 V) w2 hN.len w1 (val_enc hN.B0 V) rfl ht hn ((e _ (by omega)).trans h1) ((e _ (by omega)).trans h2) ((e _ (by omega)).trans h3) w3 (hN.half _ ht)⟩
theorem Kn.step (h : Kn B V U M n (j + 1) us qs) (hN : Nrm B n V) {q r : Nat} (hq : q = val B ((us.drop j).take (n + 3)) / V) (hr : r = val B ((us.drop j).take (n + 3)) % V) :
    Kn B V U M n j (us.take j ++ padL B (n + 3) r ++ us.drop (j + (n + 3))) (q :: qs) := by
  obtain ⟨w1, w2, w3, w4, w5⟩ := h.win hN
  have hB := hN.B0; have hl := h.len; have hi := h.iM
  have hV := hN.lt; have hV0 := hN.pos
  have hp : 0 < B ^ j := Nat.pow_pos (by omega)
  have hrV : r < V := hr ▸ Nat.mod_lt _ hV0
  have hrB : r < B ^ (n + 3) := by
    have : B ^ (n + 2) ≤ B ^ (n + 3) := Nat.pow_le_pow_right (by omega) (by omega)
    omega
  have hpl := pad_len hB hrB
  have hlj : (us.take j).length = j := by simp; omega
  have e1 : val B (us.take j ++ padL B (n + 3) r ++ us.drop (j + (n + 3))) = val B (us.take j) + B ^ j * r := by
    rw [val_append, val_append, w4, pad_val hB, hlj]; simp
  have e2 : val B us = val B (us.take j) + B ^ j * val B ((us.drop j).take (n + 3)) := by
    conv => lhs; rw [split3 us j (n + 3), val_append, val_append, w4, hlj]
    simp
  have e3 := Nat.div_add_mod (val B ((us.drop j).take (n + 3))) V
  rw [← hq, ← hr] at e3
  have htl : val B (us.take j) < B ^ j := by
    have := val_lt (B := B) (xs := us.take j) (fun d hd => h.lt d (List.mem_of_mem_take hd)); rwa [hlj] at this
  refine ⟨?_, by simp [hpl]; omega, by omega, ?_, by have := h.qlen; simp; omega, ?_, ?_⟩
  · intro d hd
    rcases List.mem_append.1 hd with hd | hd
    · rcases List.mem_append.1 hd with hd | hd
      · exact h.lt d (List.mem_of_mem_take hd)
      · exact pad_lt hB d hd
    · exact h.lt d (List.mem_of_mem_drop hd)
  · intro d hd
    rcases List.mem_cons.1 hd with rfl | hd
    · rw [hq, Nat.div_lt_iff_lt_mul hV0, Nat.mul_comm]; exact w3
    · exact h.qlt d hd
  · rw [e1, Nat.add_mul_div_left _ _ hp, Nat.div_eq_of_lt htl, Nat.zero_add]; exact hrV
  · have hs := h.sum
    rw [e2, ← e3] at hs
    rw [e1, val, ← hs, Nat.pow_succ]
    simp only [Nat.mul_add]
    have f1 : B ^ j * (V * q) = V * B ^ j * q := by rw [← Nat.mul_assoc, Nat.mul_comm (B ^ j) V]
    have f2 : V * (B ^ j * B) * val B qs = V * B ^ j * (B * val B qs) := by rw [← Nat.mul_assoc V, Nat.mul_assoc]
    rw [f1, f2]; omega
theorem Kn.done (h : Kn B V U M n 0 us qs) (hN : Nrm B n V) : val B qs = U / V ∧ val B us = U % V := by
 have h1 := h.top; have h2 := h.sum
 simp only [Nat.pow_zero, Nat.div_one, Nat.mul_one] at h1 h2
 have hV0 := hN.pos
 rw [← h2]
 exact ⟨by rw [Nat.add_mul_div_left _ _ hV0, Nat.div_eq_of_lt h1, Nat.zero_add], by rw [Nat.add_mul_mod_self_left, Nat.mod_eq_of_lt h1]⟩
theorem Kn.start {a b m : Nat} (hN : Nrm B n (b * m)) (hb : (enc B b).length = n + 2) (hm : 0 < m) (hla : n + 2 ≤ (enc B a).length) (hM : M = (enc B a).length + 1 - (n + 2)) (hmB : m ≤ B) :
  Kn B (b * m) (a * m) M n M (padL B ((enc B a).length + 1) (a * m)) [] := by
 have hB := hN.B0
 have hlt : a * m < B ^ ((enc B a).length + 1) := by
  rw [Nat.pow_succ]; exact Nat.lt_of_lt_of_le (Nat.mul_lt_mul_of_pos_right (enc_len_pow hB) hm) (Nat.mul_le_mul_left _ hmB)
 refine ⟨pad_lt hB, by rw [pad_len hB hlt]; omega, Nat.le_refl _, by simp, by simp, ?_, by simp [pad_val hB, val]⟩
 rw [pad_val hB]
 have hb0 : b ≠ 0 := by rintro rfl; simp [enc_zero] at hb
 have h1 := enc_ge_pow hB hb0
 rw [hb, show n + 2 - 1 = n + 1 by omega] at h1
 have h2 := enc_len_pow hB (n := a)
 have e : (enc B a).length = M + (n + 1) := by omega
 rw [e, Nat.pow_add] at h2
 rw [Nat.div_lt_iff_lt_mul (Nat.pow_pos (by omega))]
 have h3 : a * m < B ^ M * B ^ (n + 1) * m := Nat.mul_lt_mul_of_pos_right h2 hm
 have h4 : B ^ M * B ^ (n + 1) * m ≤ B ^ M * b * m := Nat.mul_le_mul_right _ (Nat.mul_le_mul_left _ h1)
 have h5 : B ^ M * b * m = b * m * B ^ M := by rw [Nat.mul_assoc, Nat.mul_comm]
 omega
end
theorem nrm_of {B n b m t : Nat} (hB : 1 < B) (hl : (enc B b).length = n + 2) (ht : (enc B b)[n + 1]? = some t) (h1 : (t + 1) * m ≤ B) (h2 : B ≤ 2 * (t * m)) : Nrm B n (b * m) := by
  have h3 := val_split B (enc B b) (n + 1)
  have hlt : ((enc B b).take (n + 1)).length = n + 1 := by simp; omega
  rw [hlt, drop_cons ht, List.drop_eq_nil_of_le (by omega), val_enc hB] at h3
  simp only [val, Nat.mul_zero, Nat.add_zero] at h3
  have h4 : val B ((enc B b).take (n + 1)) < B ^ (n + 1) := by
    have := val_lt (B := B) (xs := (enc B b).take (n + 1)) (fun d hd => enc_lt hB b d (List.mem_of_mem_take hd)); rwa [hlt] at this
  have hm : 0 < m := by rcases Nat.eq_zero_or_pos m with rfl | h; · simp at h2; omega
                        · exact h
  have hp : 0 < B ^ (n + 1) := Nat.pow_pos (by omega)
  have h5 : B ^ (n + 1) * (t * m) ≤ b * m := by
    have : B ^ (n + 1) * t * m ≤ b * m := Nat.mul_le_mul_right _ (by omega)
    rw [Nat.mul_assoc] at this; exact this
  have h6 : b * m < B ^ (n + 1) * B := by
    have h7 : b + 1 ≤ B ^ (n + 1) * (t + 1) := by rw [Nat.mul_add, Nat.mul_one]; omega
    have h8 : b * m < B ^ (n + 1) * (t + 1) * m := Nat.mul_lt_mul_of_pos_right h7 hm
    have h9 : B ^ (n + 1) * (t + 1) * m ≤ B ^ (n + 1) * B := by rw [Nat.mul_assoc]; exact Nat.mul_le_mul_left _ h1
    omega
  have hlen : (enc B (b * m)).length = n + 2 := by
    have a1 := enc_len_le hB (show b * m < B ^ (n + 2) by rw [show n + 2 = n + 1 + 1 by omega, Nat.pow_succ]; exact h6)
    have htm : 1 ≤ t * m := by omega
    have a2 := enc_len_ge hB (show B ^ (n + 1) ≤ b * m from Nat.le_trans (by have := Nat.mul_le_mul_left (B ^ (n + 1)) htm; simpa using this) h5)
    omega
  refine ⟨hB, hlen, fun u hu => ?_⟩
  have h7 := dig_at hB (enc_lt hB (b * m)) hu
  rw [val_enc hB, Nat.mod_eq_of_lt (by rw [Nat.div_lt_iff_lt_mul hp, Nat.mul_comm B]; exact h6)] at h7
  have h8 : t * m ≤ b * m / B ^ (n + 1) := by rw [Nat.le_div_iff_mul_le hp, Nat.mul_comm (t * m)]; exact h5
  omega
theorem quot_scale {a b m : Nat} (hm : 0 < m) : a * m / (b * m) = a / b ∧ a * m % (b * m) = a % b * m := ⟨Nat.mul_div_mul_right _ _ hm, Nat.mul_mod_mul_right ..⟩
end
end Go.Proofs.YtdljcbbodihagaaGreatDoor
