/- Part 11 of the ground of the proofs of this seat. -/
import Derived.Lib.ItoaNum
import Derived.Shelf.LaysM
import Derived.Shelf.Strconv.Itoa2
import Derived.Shelf.Strconv.Itoa1
import Derived.Lib.ItoaMem
import Derived.Shelf.Strings.OnBuilder
import Derived.Shelf.Strings.Repeat
import Derived.Test.YtfhpphmdpjebcaaGreatDoorProg
import Derived.Lib.Join
import Derived.Lib.Repeat
import Derived.Test.YtfhpphmdpjebcaaGreatDoorM10

set_option linter.unusedVariables false
set_option linter.unusedSimpArgs false
set_option maxRecDepth 100000
namespace Go.Proofs.YtfhpphmdpjebcaaGreatDoor
open Go

def parseR (s : List UInt8) : Option Rat := (parseQ s).map fun t => mkRat (sg t.1 t.2.1) t.2.2
theorem dval_ten {s : List UInt8} (h : ∀ c ∈ s, isDig c = true) : dval s < 10 ^ s.length := by
  have hl : ∀ (l : List UInt8), (∀ c ∈ l, isDig c = true) → dval l < 10 ^ l.length := by
    intro l
    induction l with
    | nil => intro _; simp [dval]
    | cons c l ih =>
      intro h
      have h1 := dval_append [c] l
      have h2 : dval [c] = c.toNat - 48 := by simp [dval]
      have h3 := h c (by simp)
      simp only [isDig, Bool.and_eq_true, decide_eq_true_eq] at h3
      have h4 := ih (fun d hd => h d (by simp [hd]))
      simp only [List.singleton_append] at h1
      rw [h1, h2, List.length_cons, Nat.pow_succ]
      have : (c.toNat - 48) * 10 ^ l.length ≤ 9 * 10 ^ l.length := Nat.mul_le_mul_right _ (by omega)
      omega
  exact hl s h
theorem ten_pow {k j n : Nat} (h1 : k ≤ 3 * j) (h2 : 10 * j < n) : 10 ^ k < 2 ^ n := by
  have h3 : 10 ^ k ≤ 10 ^ (3 * j) := Nat.pow_le_pow_right (by decide) h1
  have h4 : (10 ^ 3) ^ j ≤ (2 ^ 10) ^ j := Nat.pow_le_pow_left (by decide) j
  rw [← Nat.pow_mul, ← Nat.pow_mul] at h4
  exact Nat.lt_of_le_of_lt (Nat.le_trans h3 h4) (Nat.pow_lt_pow_right (by decide) h2)
theorem one_pow {n : Nat} (h : n ≠ 0) : 1 < 2 ^ n := Nat.one_lt_two_pow h
theorem ten_two {k : Nat} (h : k ≤ 200) : 10 ^ k < 2 ^ 700 := ten_pow (j := 67) (n := 700) (by omega) (by omega)
theorem parse_parts {s : List UInt8} {b : Bool} {m n : Nat} (h : parseQ s = some (b, m, n)) : n ≠ 0 ∧ (b = true → m ≠ 0) ∧ Nat.gcd m n = 1 ∧ m < 2 ^ 700 ∧ n < 2 ^ 700 := by
  unfold parseQ at h
  split at h
  · rename_i hc
    obtain ⟨h1, h2⟩ := hc
    obtain ⟨_, hl, hd⟩ := tok_len h1
    have hm := Nat.lt_trans (dval_ten hd) (ten_two hl)
    split at h
    · simp only [Option.some.injEq, Prod.mk.injEq] at h
      obtain ⟨rfl, rfl, rfl⟩ := h
      exact ⟨by decide, fun hb h0 => h2 ⟨hb, h0⟩, Nat.gcd_one_right _, hm, one_pow (n := 700) (by decide)⟩
    · split at h
      · rename_i i _ hc2
        obtain ⟨k1, k2, k3⟩ := hc2
        obtain ⟨_, hl2, hd2⟩ := tok_len k1
        simp only [Option.some.injEq, Prod.mk.injEq] at h
        obtain ⟨rfl, rfl, rfl⟩ := h
        exact ⟨by omega, fun hb h0 => h2 ⟨hb, h0⟩, k3, hm, Nat.lt_trans (dval_ten hd2) (ten_two hl2)⟩
      · cases h
  · cases h
theorem parse_qd {s : List UInt8} {t : Qd} (h : parseQ s = some t) : ∃ q, parseR s = some q ∧ qd q = t ∧ fits 700 q := by
  obtain ⟨b, m, n⟩ := t
  obtain ⟨h1, h2, h3, h4, h5⟩ := parse_parts h
  have e : qd (mkRat (sg b m) n) = (b, m, n) := by rw [qd_mkRat b m n h1, h3, Nat.div_one, Nat.div_one]; clear h4 h5 h; cases b <;> simp_all
  refine ⟨_, by simp only [parseR, h, Option.map_some], e, ?_⟩
  have e1 : (mkRat (sg b m) n).num.natAbs = m := congrArg (·.2.1) e
  have e2 : (mkRat (sg b m) n).den = n := congrArg (·.2.2) e
  exact ⟨by rw [e1]; exact h4, by rw [e2]; exact h5⟩
theorem parse_none {s : List UInt8} (h : parseQ s = none) : parseR s = none := by simp [parseR, h]
theorem parse_fits {s : List UInt8} {q : Rat} (h : parseR s = some q) : fits 700 q := by
  cases hq : parseQ s with
  | none => rw [parse_none hq] at h; cases h
  | some t => obtain ⟨q', h1, _, h3⟩ := parse_qd hq; rw [h1] at h; cases h; exact h3
def zr : AV := .agg [.bool false, .nil, .nil]
def optI : Option Rat → AV
  | some q => .tup [rI 700 q, .bool true]
  | none => .tup [.agg [.bool false, .nil, .nil], .bool false]
def optS : Option Rat → AV
  | some q => .tup [rS 700 q, .bool true]
  | none => .tup [.agg [.bool false, .nil, .nil], .bool false]
def optLI : Option (List Rat) → AV
  | some q => .tup [lI 700 q, .bool true]
  | none => .tup [.nil, .bool false]
def optLS : Option (List Rat) → AV
  | some q => .tup [lS 700 q, .bool true]
  | none => .tup [.nil, .bool false]
@[simp] theorem optI_pure (o : Option Rat) : (optI o).pure = true := by cases o <;> simp [optI, AV.pure, AV.pureL]
@[simp] theorem optS_pure (o : Option Rat) : (optS o).pure = true := by cases o <;> simp [optS, AV.pure, AV.pureL]
@[simp] theorem optLI_pure (o : Option (List Rat)) : (optLI o).pure = true := by cases o <;> simp [optLI, AV.pure, AV.pureL]
@[simp] theorem optLS_pure (o : Option (List Rat)) : (optLS o).pure = true := by cases o <;> simp [optLS, AV.pure, AV.pureL]
theorem optI_s (q : Rat) : optI (some q) = .tup [rI 700 q, .bool true] := rfl
theorem optI_n : optI none = .tup [.agg [.bool false, .nil, .nil], .bool false] := rfl
theorem optS_s (q : Rat) : optS (some q) = .tup [rS 700 q, .bool true] := rfl
theorem optS_n : optS none = .tup [.agg [.bool false, .nil, .nil], .bool false] := rfl
theorem optLI_s (q : List Rat) : optLI (some q) = .tup [lI 700 q, .bool true] := rfl
theorem optLI_n : optLI none = .tup [.nil, .bool false] := rfl
theorem optLS_s (q : List Rat) : optLS (some q) = .tup [lS 700 q, .bool true] := rfl
theorem optLS_n : optLS none = .tup [.nil, .bool false] := rfl
attribute [go_sem] optI_s optI_n optS_s optS_n optLI_s optLI_n optLS_s optLS_n List.drop_succ_cons
theorem w_readRat {s : List UInt8} (hs : s.length < 9223372036854775808) : CW Tryz.prog 64 [.str s] (optI (parseR s)) := by
  refine cw (by kernel_rfl) (by simp [AV.pure, AV.pureL, natA_pure, natI_pure, natS_pure]) (by simp [AV.pure, AV.pureL, natA_pure, natI_pure, natS_pure]) ?_
  have h := i_readRat s hs
  unfold readRatV at h
  cases hq : parseQ s with
  | none => rw [hq] at h; rw [parse_none hq]; exact h
  | some t =>
    obtain ⟨q, h1, h2, h3⟩ := parse_qd hq
    rw [hq] at h
    rw [h1, optI_s, rI_eq h3, h2]; exact h
attribute [go_sem] w_readRat
theorem w_sParse {s : List UInt8} (hs : s.length ≤ 1000000) : CW Tryz.prog 60 [.str s] (optS (parseR s)) := by
  refine cw (by kernel_rfl) (by simp [AV.pure, AV.pureL, natA_pure, natI_pure, natS_pure]) (by simp [AV.pure, AV.pureL, natA_pure, natI_pure, natS_pure]) ?_
  have h := s_Parse s hs
  unfold parseV at h
  cases hq : parseQ s with
  | none => rw [hq] at h; rw [parse_none hq]; exact h
  | some t =>
    obtain ⟨q, h1, h2, h3⟩ := parse_qd hq
    rw [hq] at h
    rw [h1, optS_s, rS_eq h3, h2]; exact h
theorem mapM_qd : ∀ (xs : List (List UInt8)), match xs.mapM parseQ with
    | some ts => ∃ qs, xs.mapM parseR = some qs ∧ qs.map qd = ts ∧ ∀ q ∈ qs, fits 700 q
    | none => xs.mapM parseR = none
  | [] => ⟨[], rfl, rfl, by simp⟩
  | x :: xs => by
    have ih := mapM_qd xs
    rw [List.mapM_cons, List.mapM_cons]
    cases hq : parseQ x with
    | none => rw [parse_none hq]; rfl
    | some t =>
      obtain ⟨q, h1, h2, h3⟩ := parse_qd hq
      rw [h1]
      cases hxs : xs.mapM parseQ with
      | none => rw [hxs] at ih; simp [hxs, ih]
      | some ts =>
        rw [hxs] at ih
        obtain ⟨qs, g1, g2, g3⟩ := ih
        simp only [Option.bind_eq_bind, Option.bind_some, g1, pure]
        exact ⟨q :: qs, rfl, by simp [h2, g2], by intro y hy; rcases List.mem_cons.1 hy with rfl | hy; exact h3; exact g3 y hy⟩
def listR (xs : List (List UInt8)) : Option (List Rat) := if 300 < xs.length then none else xs.mapM parseR
theorem list_qd (xs : List (List UInt8)) : match listQ xs with
    | some ts => ∃ qs, listR xs = some qs ∧ qs.map qd = ts ∧ ∀ q ∈ qs, fits 700 q
    | none => listR xs = none := by
  have h := mapM_qd xs
  unfold listQ listR
  by_cases hl : 300 < xs.length
  · rw [if_pos hl, if_pos hl]
  · rw [if_neg hl, if_neg hl]; exact h
theorem list_fits {xs : List (List UInt8)} {qs : List Rat} (h : listR xs = some qs) : (∀ q ∈ qs, fits 700 q) ∧ qs.length = xs.length ∧ qs.length ≤ 300 := by
  have hl : ¬ 300 < xs.length := by intro hl; rw [listR, if_pos hl] at h; cases h
  have h' := h
  rw [listR, if_neg hl] at h'
  have hlen := mapM_len h'
  have k := list_qd xs
  cases hq : listQ xs with
  | none => rw [hq] at k; rw [k] at h; cases h
  | some ts =>
    rw [hq] at k
    obtain ⟨qs', h1, _, h3⟩ := k
    rw [h1] at h; cases h
    exact ⟨h3, hlen, by omega⟩
theorem ratI_list {qs : List Rat} (h : ∀ q ∈ qs, fits 700 q) : (qs.map qd).map ratI = ratL 700 qs := by
  rw [List.map_map]; exact List.map_congr_left fun q hq => (rI_eq (h q hq)).symm
theorem ratS_list {qs : List Rat} (h : ∀ q ∈ qs, fits 700 q) : (qs.map qd).map ratS = ratM 700 qs := by
  rw [List.map_map]; exact List.map_congr_left fun q hq => (rS_eq (h q hq)).symm
attribute [go_sem] w_sParse
theorem w_rats {xs : List (List UInt8)} (hl : xs.length < 9223372036854775808) (hs : ∀ x ∈ xs, x.length < 9223372036854775808) : CW Tryz.prog 95 [.sl 9 (strA xs) [] false] (optLI (listR xs)) := by
  refine cw (by kernel_rfl) (by simp [AV.pure, AV.pureL, natA_pure, natI_pure, natS_pure]) (by simp [AV.pure, AV.pureL, natA_pure, natI_pure, natS_pure]) ?_
  have h := i_rats xs hl hs
  have k := list_qd xs
  unfold listI at h
  cases hq : listQ xs with
  | none => rw [hq] at h k; rw [k]; exact h
  | some ts =>
    rw [hq] at h k
    obtain ⟨qs, h1, h2, h3⟩ := k
    rw [h1, optLI_s]
    simp only [ratsI, ← h2, ratI_list h3] at h
    exact h
attribute [go_sem] w_rats
theorem w_sList {xs : List (List UInt8)} (hl : xs.length < 9223372036854775808) (hs : ∀ x ∈ xs, x.length ≤ 1000000) : CW Tryz.prog 90 [.sl 9 (strA xs) [] false] (optLS (listR xs)) := by
  refine cw (by kernel_rfl) (by simp [AV.pure, AV.pureL, natA_pure, natI_pure, natS_pure]) (by simp [AV.pure, AV.pureL, natA_pure, natI_pure, natS_pure]) ?_
  have h := s_List xs hl hs
  have k := list_qd xs
  unfold listS at h
  cases hq : listQ xs with
  | none => rw [hq] at h k; rw [k]; exact h
  | some ts =>
    rw [hq] at h k
    obtain ⟨qs, h1, h2, h3⟩ := k
    rw [h1, optLS_s]
    simp only [ratsS, ← h2, ratS_list h3] at h
    exact h
attribute [go_sem] w_sList
theorem w_sIn {n a b : Int} : CW Tryz.prog 55 [.int .i64 n, .int .i64 a, .int .i64 b] (.bool (decide (a ≤ n ∧ n ≤ b))) := by
  refine cw (by kernel_rfl) (by simp [AV.pure, AV.pureL, natA_pure, natI_pure, natS_pure]) (by simp [AV.pure, AV.pureL, natA_pure, natI_pure, natS_pure]) ?_
  by_cases h1 : a ≤ n
  · by_cases h2 : n ≤ b
    all_goals
      (refine callOk_of_wpc (W := fun _ => false) false hm' Tryz.func55 rfl (by kernel_rfl) (Nat.le_of_ble_eq_true rfl) (go_start ?_); generalize hQ : Post Tryz.prog Tryz.f55 _ _ _ _ _ = Q; simp only [stIn, matL, matA, st00])
      simp (disch := omega) only [go_sem, ↓k_cond, ↓x_idx, ↓k_block, Nat.reduceEqDiff, Nat.reduceBEq, ↓reduceIte, reduceCtorEq]
      rw [← hQ]
      exact post_one (.inl rfl) rfl (by simp [upd_app]; omega) rfl
  · (refine callOk_of_wpc (W := fun _ => false) false hm' Tryz.func55 rfl (by kernel_rfl) (Nat.le_of_ble_eq_true rfl) (go_start ?_); generalize hQ : Post Tryz.prog Tryz.f55 _ _ _ _ _ = Q; simp only [stIn, matL, matA, st00])
    simp (disch := omega) only [go_sem, ↓k_cond, ↓x_idx, ↓k_block, Nat.reduceEqDiff, Nat.reduceBEq, ↓reduceIte, reduceCtorEq]
    rw [← hQ]
    exact post_one (.inl rfl) rfl (by simp [upd_app]; omega) rfl
attribute [go_sem] w_sIn
theorem w_in {n a b : Int} : CW Tryz.prog 57 [.int .i64 n, .int .i64 a, .int .i64 b] (.bool (decide (a ≤ n ∧ n ≤ b))) := by
  refine cw (by kernel_rfl) (by simp [AV.pure, AV.pureL, natA_pure, natI_pure, natS_pure]) (by simp [AV.pure, AV.pureL, natA_pure, natI_pure, natS_pure]) ?_
  by_cases h1 : a ≤ n
  · by_cases h2 : n ≤ b
    all_goals
      (refine callOk_of_wpc (W := fun _ => false) false hm' Tryz.func57 rfl (by kernel_rfl) (Nat.le_of_ble_eq_true rfl) (go_start ?_); generalize hQ : Post Tryz.prog Tryz.f57 _ _ _ _ _ = Q; simp only [stIn, matL, matA, st00])
      simp (disch := omega) only [go_sem, ↓k_cond, ↓x_idx, ↓k_block, Nat.reduceEqDiff, Nat.reduceBEq, ↓reduceIte, reduceCtorEq]
      rw [← hQ]
      exact post_one (.inl rfl) rfl (by simp [upd_app]; omega) rfl
  · (refine callOk_of_wpc (W := fun _ => false) false hm' Tryz.func57 rfl (by kernel_rfl) (Nat.le_of_ble_eq_true rfl) (go_start ?_); generalize hQ : Post Tryz.prog Tryz.f57 _ _ _ _ _ = Q; simp only [stIn, matL, matA, st00])
    simp (disch := omega) only [go_sem, ↓k_cond, ↓x_idx, ↓k_block, Nat.reduceEqDiff, Nat.reduceBEq, ↓reduceIte, reduceCtorEq]
    rw [← hQ]
    exact post_one (.inl rfl) rfl (by simp [upd_app]; omega) rfl
attribute [go_sem] w_in
theorem decD_small {u : Nat} (h : u < 10) : Lib.decDigits u = [UInt8.ofNat (48 + u)] := by rw [Lib.decDigits, dif_pos h]
theorem decD_big {u : Nat} (h : ¬ u < 10) : Lib.decDigits u = Lib.decDigits (u / 10) ++ [UInt8.ofNat (48 + u % 10)] := by rw [Lib.decDigits, dif_neg h]
theorem decD_ne (u : Nat) : Lib.decDigits u ≠ [] := fun h => by
  have h1 := Lib.decDigits_length u
  have h2 := Lib.nDigits_pos u
  rw [h] at h1; simp at h1; omega
def padD : Nat → Nat → List UInt8
  | 0, _ => []
  | k + 1, r => padD k (r / 10) ++ [UInt8.ofNat (48 + r % 10)]
theorem padD_len : ∀ k r, (padD k r).length = k
  | 0, _ => rfl
  | k + 1, r => by simp [padD, padD_len k]
theorem decD_cat (q : Nat) (hq : 0 < q) : ∀ (k r : Nat), r < 10 ^ k → Lib.decDigits (q * 10 ^ k + r) = Lib.decDigits q ++ padD k r
  | 0, r, h => by
    obtain rfl : r = 0 := by simpa using h
    simp [padD]
  | k + 1, r, h => by
    have hp : 0 < 10 ^ k := Nat.pow_pos (by decide)
    have hqk : 10 ^ k ≤ q * 10 ^ k := Nat.le_mul_of_pos_left _ hq
    have ih := decD_cat q hq k (r / 10)
    rw [Nat.pow_succ] at h ⊢
    rw [← Nat.mul_assoc]
    generalize q * 10 ^ k = X at *
    generalize 10 ^ k = Y at *
    rw [decD_big (by omega), show (X * 10 + r) / 10 = X + r / 10 by omega, show (X * 10 + r) % 10 = r % 10 by omega, ih (by omega), padD, List.append_assoc]
theorem padD_zero : ∀ k, padD k 0 = List.replicate k 48
  | 0 => rfl
  | k + 1 => by rw [padD, Nat.zero_div, padD_zero k, List.replicate_succ']; rfl
theorem padD_eq : ∀ (k r : Nat), r < 10 ^ k → 0 < k → padD k r = List.replicate (k - (Lib.decDigits r).length) 48 ++ Lib.decDigits r
  | 0, _, _, h => absurd h (Nat.lt_irrefl _)
  | k + 1, r, h, _ => by
    by_cases hr : r < 10
    · rw [padD, Nat.div_eq_of_lt hr, padD_zero, Nat.mod_eq_of_lt hr, decD_small hr]; simp
    · have hk : 0 < k := by
        rcases Nat.eq_zero_or_pos k with rfl | h'
        · simp at h; omega
        · exact h'
      rw [Nat.pow_succ] at h
      rw [padD, padD_eq k (r / 10) (by generalize 10 ^ k = Y at *; omega) hk, decD_big hr]
      simp
theorem decD_len : ∀ {k r : Nat}, r < 10 ^ k → 0 < k → (Lib.decDigits r).length ≤ k
  | 0, _, _, h => absurd h (Nat.lt_irrefl _)
  | k + 1, r, h, _ => by
    by_cases hr : r < 10
    · rw [decD_small hr]; simp
    · have hk : 0 < k := by
        rcases Nat.eq_zero_or_pos k with rfl | h'
        · simp at h; omega
        · exact h'
      rw [Nat.pow_succ] at h
      have := decD_len (k := k) (r := r / 10) (by generalize 10 ^ k = Y at *; omega) hk
      rw [decD_big hr]; simp; omega
theorem decD_pad9 {q r : Nat} (hq : 0 < q) (hr : r < 1000000000) : Lib.decDigits (q * 1000000000 + r) = Lib.decDigits q ++ padD 9 r := by
  have := decD_cat q hq 9 r (by simpa using hr)
  simpa using this
theorem decD_one : Lib.decDigits 1 = [49] := by rw [decD_small (by decide)]; rfl
theorem decD_zero : Lib.decDigits 0 = [48] := by rw [decD_small (by decide)]; rfl
theorem decD_nine {r : Nat} (hr : r < 1000000000) : Lib.decDigits (r + 1000000000) = 49 :: padD 9 r := by
  have := decD_pad9 (q := 1) (by decide) hr
  rw [Nat.one_mul, decD_one, Nat.add_comm] at this
  exact this
theorem decD_is_one {n : Nat} (h : Lib.decDigits n = [49]) : n = 1 := by
  by_cases hn : n < 10
  · rw [decD_small hn] at h
    have : UInt8.ofNat (48 + n) = 49 := by simpa using h
    have h2 := congrArg UInt8.toNat this
    rw [UInt8.toNat_ofNat_of_lt' (Nat.lt_of_lt_of_le (show 48 + n < 256 by omega) (by decide))] at h2
    have h3 : (49 : UInt8).toNat = 49 := rfl
    omega
  · rw [decD_big hn] at h
    have := congrArg List.length h
    have h2 := decD_ne (n / 10)
    have h3 := List.length_pos_iff.2 h2
    simp at this
    exact absurd this h2
def chunkD (n : Nat) : List (List UInt8) :=
  if h : n = 0 then [] else (if n / 1000000000 = 0 then Lib.decDigits n else padD 9 (n % 1000000000)) :: chunkD (n / 1000000000)
termination_by n
decreasing_by omega
theorem chunkD_zero : chunkD 0 = [] := by rw [chunkD, dif_pos rfl]
theorem chunkD_pos {n : Nat} (h : n ≠ 0) : chunkD n = (if n / 1000000000 = 0 then Lib.decDigits n else padD 9 (n % 1000000000)) :: chunkD (n / 1000000000) := by rw [chunkD, dif_neg h]
theorem chunkD_text (n : Nat) : n ≠ 0 → (chunkD n).reverse.flatten = Lib.decDigits n := by
  induction n using Nat.strongRecOn with
  | _ n ih =>
    intro h
    rw [chunkD_pos h]
    by_cases hq : n / 1000000000 = 0
    · rw [if_pos hq, hq, chunkD_zero]; simp
    · have e := decD_pad9 (q := n / 1000000000) (r := n % 1000000000) (by omega) (Nat.mod_lt _ (by decide))
      rw [show n / 1000000000 * 1000000000 + n % 1000000000 = n by omega] at e
      rw [if_neg hq, List.reverse_cons, List.flatten_append, ih _ (by omega) hq, e]; simp
theorem chunkD_len {k n : Nat} (h : n < 1000000000 ^ k) : (chunkD n).length ≤ k := by
  induction k generalizing n with
  | zero => obtain rfl : n = 0 := by simpa using h
            rw [chunkD_zero]; simp
  | succ k ih =>
    by_cases h0 : n = 0
    · subst h0; rw [chunkD_zero]; simp
    · rw [Nat.pow_succ] at h
      have := ih (n := n / 1000000000) (by generalize 1000000000 ^ k = Y at *; omega)
      rw [chunkD_pos h0]; simp; omega
theorem chunkD_nine {n : Nat} : ∀ c ∈ chunkD n, c.length ≤ 9 ∧ c ≠ [] := by
  induction n using Nat.strongRecOn with
  | _ n ih =>
    intro c hc
    by_cases h0 : n = 0
    · subst h0; rw [chunkD_zero] at hc; simp at hc
    · rw [chunkD_pos h0] at hc
      rcases List.mem_cons.1 hc with rfl | hc
      · split
        · rename_i hq
          exact ⟨decD_len (by simp; omega) (by decide), decD_ne n⟩
        · refine ⟨by rw [padD_len]; decide, fun h => ?_⟩
          have := padD_len 9 (n % 1000000000)
          rw [h] at this; simp at this
      · exact ih _ (by omega) c hc
theorem enc_at {B : Nat} (hB : 1 < B) : ∀ {i n d : Nat}, (enc B n)[i]? = some d → d = n / B ^ i % B
  | 0, n, d, h => by
    by_cases h0 : n = 0
    · subst h0; rw [enc_zero] at h; simp at h
    · rw [enc_pos hB h0] at h
      simpa using h.symm
  | i + 1, n, d, h => by
    by_cases h0 : n = 0
    · subst h0; rw [enc_zero] at h; simp at h
    · rw [enc_pos hB h0, List.getElem?_cons_succ] at h
      rw [enc_at hB h, Nat.div_div_eq_div_mul, Nat.pow_succ, Nat.mul_comm]
theorem top_pos {B n i : Nat} (hB : 1 < B) (hn : n ≠ 0) (hi : i < (enc B n).length) : 0 < n / B ^ i := by
  refine Nat.div_pos ?_ (Nat.pow_pos (by omega))
  exact Nat.le_trans (Nat.pow_le_pow_right (by omega) (by omega)) (enc_ge_pow hB hn)
theorem top_lt {B n : Nat} (hB : 1 < B) (hn : 0 < (enc B n).length) : n / B ^ ((enc B n).length - 1) < B := by
  have h := enc_len_pow (n := n) hB
  obtain ⟨k, hk⟩ : ∃ k, (enc B n).length = k + 1 := ⟨(enc B n).length - 1, by omega⟩
  rw [hk, Nat.pow_succ] at h
  rw [hk, Nat.add_sub_cancel]
  exact Nat.div_lt_of_lt_mul h
theorem div_step {B n i : Nat} : n / B ^ i = n / B ^ (i + 1) * B + n / B ^ i % B := by
  rw [Nat.pow_succ, ← Nat.div_div_eq_div_mul]
  have := Nat.div_add_mod (n / B ^ i) B
  rw [Nat.mul_comm] at this
  exact this.symm
def bytA (s : List UInt8) : List AV := s.map fun b => .int .u8 b.toNat
theorem bytA_length (s : List UInt8) : (bytA s).length = s.length := by simp [bytA]
theorem bytA_append (s t : List UInt8) : bytA s ++ bytA t = bytA (s ++ t) := by simp [bytA]
theorem bytA_pure : ∀ s : List UInt8, AV.pureL (bytA s) = true
  | [] => rfl
  | _ :: s => by have := bytA_pure s; simp only [bytA] at this; simp [bytA, AV.pureL, AV.pure, this]
theorem bytesOf_bytA : ∀ s : List UInt8, bytesOf (bytA s) = some s
  | [] => rfl
  | c :: s => by
    have := bytesOf_bytA s
    simp only [bytA] at this
    simp [bytA, bytesOf, this]
theorem rI_re {m n : Nat} {q : Rat} (h1 : fits m q) (h2 : fits n q) : rI m q = rI n q := by rw [rI_eq h1, rI_eq h2]
theorem rS_re {m n : Nat} {q : Rat} (h1 : fits m q) (h2 : fits n q) : rS m q = rS n q := by rw [rS_eq h1, rS_eq h2]
theorem fits_sub {m n : Nat} {a b : Rat} (h1 : fits m a) (h2 : fits n b) : fits (m + n + 1) (a - b) := by
  rw [Rat.sub_eq_add_neg]; exact fits_add h1 (fits_neg h2)
def numS (q : Rat) : List UInt8 := (if q.num < 0 then [45] else []) ++ (Lib.decDigits q.num.natAbs ++ (if q.den = 1 then [] else 47 :: Lib.decDigits q.den))
def okR (q : Rat) : Bool := decide ((Lib.decDigits q.num.natAbs).length ≤ 200) && decide ((Lib.decDigits q.den).length ≤ 200)
def toldR (q : Rat) : Option (List UInt8) := if okR q then some (numS q) else none
def optT : Option (List UInt8) → AV
  | some s => .tup [.str s, .bool true]
  | none => .tup [.str [], .bool false]
@[simp] theorem optT_pure (o : Option (List UInt8)) : (optT o).pure = true := by cases o <;> simp [optT, AV.pure, AV.pureL]
theorem optT_s (s : List UInt8) : optT (some s) = .tup [.str s, .bool true] := rfl
theorem optT_n : optT none = .tup [.str [], .bool false] := rfl
theorem decD_len2 {n k : Nat} (h : n < 2 ^ k) (hk : 0 < k) : (Lib.decDigits n).length ≤ k := decD_len (Nat.lt_of_lt_of_le h (Nat.pow_le_pow_left (by decide) k)) hk
theorem numS_len {m : Nat} {q : Rat} (h : fits m q) : (Lib.decDigits q.num.natAbs).length ≤ m ∧ (Lib.decDigits q.den).length ≤ m := ⟨decD_len2 h.1 (fits_pos h), decD_len2 h.2 (fits_pos h)⟩

def mapF (n : Nat) (f : Nat → Rat) : List Rat := (List.range n).map f
theorem mapF_succ {n : Nat} {f : Nat → Rat} : mapF (n + 1) f = mapF n f ++ [f n] := by simp [mapF, List.range_succ]
theorem mapF_len {n : Nat} {f : Nat → Rat} : (mapF n f).length = n := by simp [mapF]
theorem mapF_at {n i : Nat} {f : Nat → Rat} (h : i < n) : (mapF n f)[i]? = some (f i) := by simp [mapF, h]
theorem mapF_congr {n : Nat} {f g : Nat → Rat} (h : ∀ i, i < n → f i = g i) : mapF n f = mapF n g := List.map_congr_left fun i hi => h i (List.mem_range.1 hi)
theorem mapF_fits {m n : Nat} {f : Nat → Rat} (h : ∀ i, i < n → fits m (f i)) : ∀ q ∈ mapF n f, fits m q := by
  intro q hq
  obtain ⟨i, hi, rfl⟩ := List.mem_map.1 hq
  exact h i (List.mem_range.1 hi)

def facP (k : Nat) : Nat → Int
  | 0 => 1
  | i + 1 => facP k i * ((k : Int) - i)
theorem facP_bd {k : Nat} (hk : k ≤ 12) : ∀ i, i ≤ 6 → (facP k i).natAbs ≤ 12 ^ i
  | 0, _ => by simp [facP]
  | i + 1, h => by
    have := facP_bd hk i (by omega)
    rw [facP, Int.natAbs_mul, Nat.pow_succ]
    exact Nat.mul_le_mul this (by omega)
theorem facP_lt {k i : Nat} (hk : k ≤ 12) (hi : i ≤ 6) : (facP k i).natAbs ≤ 2985984 := Nat.le_trans (facP_bd hk i hi) (Nat.le_trans (Nat.pow_le_pow_right (by decide) hi) (by decide))
theorem facP_fits {k i : Nat} (hk : k ≤ 12) (hi : i ≤ 6) : fits 64 (facP k i : Rat) := fits_int (Nat.lt_of_le_of_lt (facP_lt hk hi) (by decide)) (by decide)
def facSum (qs : List Rat) (n : Nat) : Nat → Rat
  | 0 => 0
  | k + 1 => facSum qs n k + qs.getD k 0 * (facP k n : Rat)
theorem sumL_fits {m : Nat} {qs : List Rat} (h : ∀ q ∈ qs, fits m q) : fits (64 + qs.length * (m + 1)) (sumL qs) := by
  have key : ∀ (qs : List Rat), (∀ q ∈ qs, fits m q) → ∀ (a : Rat) (n : Nat), fits n a → fits (n + qs.length * (m + 1)) (qs.foldl (· + ·) a) := by
    intro qs
    induction qs with
    | nil => intro _ a n h; simpa using h
    | cons q qs ih =>
      intro h a n ha
      have := ih (fun x hx => h x (by simp [hx])) (a + q) (n + m + 1) (fits_add ha (h q (by simp)))
      rw [List.foldl_cons, List.length_cons, Nat.add_mul]
      exact fits_mono this (by omega)
  exact key qs h 0 64 (fits_int (n := 0) (by decide) (by decide))
def subO (x : Rat) (o y : List Rat) (k : Nat) : Nat → Rat
  | 0 => x
  | i + 1 => subO x o y k i - o.getD i 0 * y.getD (k - i) 0
def overO (x y : List Rat) : Nat → List Rat
  | 0 => []
  | k + 1 => overO x y k ++ [subO (x.getD k 0) (overO x y k) y k k / y.getD 0 0]
theorem overO_len (x y : List Rat) : ∀ k, (overO x y k).length = k
  | 0 => rfl
  | k + 1 => by simp [overO, overO_len x y k]
theorem subO_fits {x : Rat} {o y : List Rat} {k : Nat} (hx : fits 700 x) (hy : ∀ i, fits 700 (y.getD i 0)) (ho : ∀ i, i < k → fits (2101 * 2 ^ i - 701) (o.getD i 0)) : ∀ i, i ≤ k → fits (2101 * 2 ^ i - 1401) (subO x o y k i)
  | 0, _ => hx
  | i + 1, h => by
    have h1 := subO_fits hx hy ho i (by omega)
    have h2 := fits_mul (ho i (by omega)) (hy (k - i)) (fits_pos (ho i (by omega)))
    have := fits_sub h1 h2
    have hp : 1 ≤ 2 ^ i := Nat.one_le_two_pow
    refine fits_mono this ?_
    rw [Nat.pow_succ]; omega
theorem overO_fits {x y : List Rat} (hx : ∀ i, fits 700 (x.getD i 0)) (hy : ∀ i, fits 700 (y.getD i 0)) (h0 : (y.getD 0 0).num ≠ 0) : ∀ k i, i < k → fits (2101 * 2 ^ i - 701) ((overO x y k).getD i 0)
  | 0, i, h => absurd h (Nat.not_lt_zero i)
  | k + 1, i, h => by
    have ih := overO_fits hx hy h0 k
    have hl := overO_len x y k
    rw [overO]
    by_cases hi : i < k
    · have e : (overO x y k ++ [subO (x.getD k 0) (overO x y k) y k k / y.getD 0 0]).getD i 0 = (overO x y k).getD i 0 := by
        simp [List.getD_eq_getElem?_getD, List.getElem?_append_left (show i < (overO x y k).length by omega)]
      rw [e]; exact ih i hi
    · obtain rfl : i = k := by omega
      have e : (overO x y i ++ [subO (x.getD i 0) (overO x y i) y i i / y.getD 0 0]).getD i 0 = subO (x.getD i 0) (overO x y i) y i i / y.getD 0 0 := by
        simp [List.getD_eq_getElem?_getD, hl]
      rw [e]
      have h1 := subO_fits (hx i) hy ih i (Nat.le_refl _)
      have hp : 1 ≤ 2 ^ i := Nat.one_le_two_pow
      exact fits_mono (fits_over h1 (hy 0) h0) (by omega)
def serR (xs : List (List UInt8)) : Option (List Rat) := if 1 ≤ xs.length ∧ xs.length ≤ 13 then listR xs else none
theorem serR_some {xs : List (List UInt8)} {qs : List Rat} (h : serR xs = some qs) : (∀ q ∈ qs, fits 700 q) ∧ qs.length = xs.length ∧ 1 ≤ qs.length ∧ qs.length ≤ 13 := by
  unfold serR at h
  split at h
  · rename_i hc
    obtain ⟨h1, h2, _⟩ := list_fits h
    exact ⟨h1, h2, by omega, by omega⟩
  · cases h
theorem facM_fits {qs : List Rat} {n : Nat} (hq : ∀ q ∈ qs, fits 700 q) (hl : qs.length ≤ 13) (hn : n ≤ 6) : ∀ k, k ≤ qs.length → fits (64 + k * 765) (facSum qs n k)
  | 0, _ => fits_int (n := 0) (by decide) (by decide)
  | k + 1, h => by
    have h1 := facM_fits hq hl hn k (by omega)
    have hk : k < qs.length := by omega
    have h2 : fits 700 (qs.getD k 0) := by
      rw [List.getD_eq_getElem?_getD, List.getElem?_eq_getElem hk]
      exact hq _ (List.getElem_mem hk)
    have h3 := fits_mul h2 (facP_fits (k := k) (i := n) (by omega) hn) (fits_pos h2)
    exact fits_mono (fits_add h1 h3) (by rw [Nat.add_mul]; omega)
def facT (xs : List (List UInt8)) (n : Int) : Option (List UInt8) :=
  match serR xs with
  | some qs => if 0 ≤ n ∧ n ≤ 6 then toldR (facSum qs n.toNat qs.length) else none
  | none => none
theorem facP_wrap {k i : Nat} (hk : k ≤ 12) (hi : i < 6) : IntKind.i64.wrap (facP k i * ((k : Int) - (i : Int))) = facP k (i + 1) := by
  have h := facP_lt hk (show i + 1 ≤ 6 by omega)
  have e : facP k (i + 1) = facP k i * ((k : Int) - (i : Int)) := rfl
  rw [← e]
  exact wrapI (by omega) (by omega)
theorem facP_step {q : Rat} {k i : Nat} : q * (facP k i : Rat) * (((k : Int) - (i : Int) : Int) : Rat) = q * (facP k (i + 1) : Rat) := by
  rw [facP, Rat.intCast_mul, Rat.mul_assoc]
theorem s_int : szT Tryz.prog 3 = 1 := by kernel_rfl
theorem g_int : aggT Tryz.prog 3 = false := by kernel_rfl
theorem el_int {n : Int} : AV.el Tryz.prog 3 (.int .i64 n) = true := by simp [AV.el, s_int, AV.cells, AV.one]
attribute [go_sem] s_int g_int el_int
structure Mdl where
  room : Int
  come : List UInt8
  serve : List UInt8
  reward : List UInt8
  cost : List UInt8
abbrev Mdl.av (m : Mdl) : AV := .agg [.int .i64 m.room, .str m.come, .str m.serve, .str m.reward, .str m.cost]
def Mdl.small (m : Mdl) : Prop := m.come.length ≤ 1000000 ∧ m.serve.length ≤ 1000000 ∧ m.reward.length ≤ 1000000 ∧ m.cost.length ≤ 1000000
structure MR where
  room : Nat
  come : Rat
  serve : Rat
  reward : Rat
  cost : Rat
def modOk (m : Mdl) (c s r k : Rat) : Prop := 1 ≤ m.room ∧ m.room ≤ 8 ∧ 0 < c ∧ 0 < s ∧ 0 ≤ r ∧ 0 ≤ k ∧ c + s ≤ 1
instance (m : Mdl) (c s r k : Rat) : Decidable (modOk m c s r k) := by unfold modOk; infer_instance
def modR (m : Mdl) : Option MR :=
  match parseR m.come, parseR m.serve, parseR m.reward, parseR m.cost with
  | some c, some s, some r, some k => if modOk m c s r k then some ⟨m.room.toNat, c, s, r, k⟩ else none
  | _, _, _, _ => none
theorem modR_fits {m : Mdl} {x : MR} (h : modR m = some x) : fits 700 x.come ∧ fits 700 x.serve ∧ fits 700 x.reward ∧ fits 700 x.cost ∧ 1 ≤ x.room ∧ x.room ≤ 8 ∧ m.room = x.room ∧ 0 < x.come ∧ 0 < x.serve ∧ 0 ≤ x.reward ∧ 0 ≤ x.cost ∧ x.come + x.serve ≤ 1 := by
  unfold modR at h
  split at h
  · rename_i c s r k hc hs hr hk
    split at h
    · rename_i ho
      cases h
      obtain ⟨o1, o2, o3⟩ := ho
      exact ⟨parse_fits hc, parse_fits hs, parse_fits hr, parse_fits hk, by simp only; omega, by simp only; omega, by simp only; omega, o3⟩
    · cases h
  · cases h
abbrev MR.sv (x : MR) : AV := .agg [.int .i64 x.room, .bool (decide (x.come.num < 0)), tS 700 x.come, dS 700 x.come, .bool (decide (x.serve.num < 0)), tS 700 x.serve, dS 700 x.serve,
  .bool (decide ((1 - x.come - x.serve).num < 0)), tS 1466 (1 - x.come - x.serve), dS 1466 (1 - x.come - x.serve), .bool (decide (x.reward.num < 0)), tS 700 x.reward, dS 700 x.reward, .bool (decide (x.cost.num < 0)), tS 700 x.cost, dS 700 x.cost]
abbrev zeroMS : AV := .agg [.int .i64 0, .bool false, .nil, .nil, .bool false, .nil, .nil, .bool false, .nil, .nil, .bool false, .nil, .nil, .bool false, .nil, .nil]
def modS : Option MR → AV
  | some x => .tup [x.sv, .bool true]
  | none => .tup [zeroMS, .bool false]
theorem modS_s (x : MR) : modS (some x) = .tup [x.sv, .bool true] := rfl
theorem modS_n : modS none = .tup [zeroMS, .bool false] := rfl
@[simp] theorem modS_pure (o : Option MR) : (modS o).pure = true := by cases o <;> simp [modS, AV.pure, AV.pureL]
attribute [go_sem] modS_s modS_n
theorem gen_sParse {s : List UInt8} (hs : s.length ≤ 1000000) : ∃ x y z, CW Tryz.prog 60 [.str s] (.tup [.agg [x, y, z], .bool (parseR s).isSome]) ∧ x.one = true ∧ y.one = true ∧ z.one = true := by
  have h := w_sParse hs
  cases hq : parseR s with
  | none => rw [hq] at h; exact ⟨_, _, _, h, rfl, rfl, rfl⟩
  | some q => rw [hq] at h; exact ⟨_, _, _, h, rfl, by simp, by simp⟩
section
variable {P : Program} {W : FuncId → Bool} {d : Option Tmp} {ops : Array Oper} {os : List Oper} {fr : Nat → AV} {h : Nat → Blk} {nx : Nat} {K : St → Prop} {t : TokC ⟨d, ops, os, fr, h, nx, K⟩} {g : FuncId} {al : List AV}
theorem CallOk.inOkT {sargs : List AV} {T : Nat} {xs sp : List AV} {ex b : Bool} (hc : CallOk P g sargs (.tup [.own T xs sp ex, .bool b]) []) (hp : AV.pureL sargs = true) (hr : AV.pureL xs = true) (hs : AV.pureL sp = true) :
    InOk P ⟨fr, h, nx⟩ g sargs (.tup [.ref nx (xs.length + sp.length) 0 xs.length, .bool b]) ⟨fr, upd h nx ⟨T, xs ++ sp, ex, true, true⟩, nx + 1⟩ := by
  have he : eatH (outH h [] []) [] = h := by funext i; simp [eatH, outH]
  have : CallStep P ⟨fr, h, nx⟩ g sargs (.tup [.ref nx (xs.length + sp.length) 0 xs.length, .bool b]) ⟨fr, upd h nx ⟨T, xs ++ sp, ex, true, true⟩, nx + 1⟩ :=
    ⟨sargs.map fun _ => .snap, sargs, [], [], [], .tup [.own T xs sp ex, .bool b], [], passL_pure hp, hc, by simp, by simp, .inl rfl, .inl rfl, by
    simp only [matA, matL, matL_pure _ _ _ hr, matL_pure _ _ _ hs, he, St.new]⟩
  exact this.inOk
theorem callW_X {sargs : List AV} {ids : List Nat} {r x : AV} {st' : St} (hc : CallOk P g sargs r []) (hg : callable P g = true) (hs : snapL (snapA ⟨fr, h, nx⟩ 8) al = some (sargs, ids)) (ht : r.solid = true) (hm : matA true r ⟨fr, h, nx⟩ = (x, st')) (hW : W g = true)
    (hk : wpos P W ops os (st'.put d x) K) : callW P W g al ⟨d, ops, os, fr, h, nx, K⟩ t := by
  have he : eatH (outH h [] []) [] = h := by funext i; simp [eatH, outH]
  refine callW_of (pm := al.map fun _ => .snap) (outs := []) hc hg (passL_snap' hs) ?_ (by simp) (by simp) (.inr ⟨ht, rfl⟩) (.inl rfl) ?_ ?_
  · intro hw; rw [hW] at hw; cases hw
  · intro hw; rw [hW] at hw; cases hw
  · rw [he, hm]; exact hk
end
abbrev CWT (P : Program) (g : FuncId) (al : List AV) (T : Nat) (xs sp : List AV) (ex b : Bool) : Prop :=
  ∀ (W : FuncId → Bool) (d : Option Tmp) (ops : Array Oper) (os : List Oper) (fr : Nat → AV) (h : Nat → Blk) (nx : Nat) (K : St → Prop) (t : TokC ⟨d, ops, os, fr, h, nx, K⟩), W g = true →
    callW P W g al ⟨d, ops, os, fr, h, nx, K⟩ t = (Hid (callW P W g al ⟨d, ops, os, fr, h, nx, K⟩ .mk) .mk ∨ wpos P W ops os (St.put ⟨fr, upd h nx ⟨T, xs ++ sp, ex, true, true⟩, nx + 1⟩ d (.tup [.ref nx (xs.length + sp.length) 0 xs.length, .bool b])) K)
theorem cwt {P : Program} {g : FuncId} {al : List AV} {T : Nat} {xs sp : List AV} {ex b : Bool} (hg : callable P g = true) (hp : AV.pureL al = true) (hr : AV.pureL xs = true) (hs : AV.pureL sp = true) (hc : CallOk P g al (.tup [.own T xs sp ex, .bool b]) []) : CWT P g al T xs sp ex b := by
  intro W d ops os fr h nx K t hW
  cases t
  exact orHid fun hk => ⟨hg, _, _, hc.inOkT hp hr hs, fun hw => (by rw [hW] at hw; cases hw), fun hw => (by rw [hW] at hw; cases hw), hk⟩
theorem cwtW {P : Program} {g : FuncId} {al : List AV} {T : Nat} {xs sp : List AV} {ex b : Bool} {W : FuncId → Bool} (hW : W g = true) (h : CWT P g al T xs sp ex b) (d : Option Tmp) (ops : Array Oper) (os : List Oper) (fr : Nat → AV) (h0 : Nat → Blk) (nx : Nat) (K : St → Prop) (t : TokC ⟨d, ops, os, fr, h0, nx, K⟩) :
    callW P W g al ⟨d, ops, os, fr, h0, nx, K⟩ t = (Hid (callW P W g al ⟨d, ops, os, fr, h0, nx, K⟩ .mk) .mk ∨ wpos P W ops os (St.put ⟨fr, upd h0 nx ⟨T, xs ++ sp, ex, true, true⟩, nx + 1⟩ d (.tup [.ref nx (xs.length + sp.length) 0 xs.length, .bool b])) K) := h W d ops os fr h0 nx K t hW
theorem matA_ownB {T : Nat} {xs sp : List AV} {ex b : Bool} {fr : Nat → AV} {h : Nat → Blk} {nx : Nat} (hr : AV.pureL xs = true) (hs : AV.pureL sp = true) :
    matA true (.tup [.own T xs sp ex, .bool b]) ⟨fr, h, nx⟩ = (.tup [.ref nx (xs.length + sp.length) 0 xs.length, .bool b], ⟨fr, upd h nx ⟨T, xs ++ sp, ex, true, true⟩, nx + 1⟩) := by
  simp only [matA, matL, matL_pure _ _ _ hr, matL_pure _ _ _ hs, St.new]
theorem t_bytes : elT Tryz.prog 91 = some 5 := by kernel_rfl
theorem o_bytes : okT Tryz.prog 91 = true := by kernel_rfl
theorem g_uint8 : aggT Tryz.prog 5 = false := by kernel_rfl
theorem i_uint8 : (Tryz.prog.info? 5).isSome = true := by kernel_rfl
theorem s_uint8 : szT Tryz.prog 5 = 1 := by kernel_rfl
theorem b_uint8 : byT Tryz.prog 5 = 1 := by kernel_rfl
theorem z_uint8 : zeroA Tryz.prog 5 = some (.int .u8 0) := by kernel_rfl
theorem zk_uint8 : zokT Tryz.prog 5 = true := by kernel_rfl
theorem w_uint8 : u32T Tryz.prog 5 = false := by kernel_rfl
theorem u8_uint8 : u8T Tryz.prog 5 = true := by kernel_rfl
theorem el_uint8 {n : Int} : AV.el Tryz.prog 5 (.int .u8 n) = true := by simp [AV.el, s_uint8, AV.cells, AV.one]
attribute [go_sem] t_bytes o_bytes g_uint8 i_uint8 s_uint8 b_uint8 z_uint8 zk_uint8 w_uint8 u8_uint8 el_uint8
def DecV (n i : Nat) (v : AV) (h : Nat → Blk) (nx : Nat) : Prop :=
  (i = 0 ∧ v = .ref 0 0 0 0 ∧ h 0 = ⟨5, [], true, true, true⟩) ∨ (i = 1 ∧ v = .sl 5 (bytA (padD 1 n)) [] true) ∨
  (2 ≤ i ∧ ∃ id ex, id < nx ∧ v = .ref id i 0 i ∧ h id = ⟨5, bytA (padD i n), ex, true, true⟩)
theorem padD_step (n : Nat) : ∀ i, padD (i + 1) n = UInt8.ofNat (48 + n / 10 ^ i % 10) :: padD i n
  | 0 => by simp [padD]
  | i + 1 => by
    have ih := padD_step (n / 10) i
    have e : n / 10 / 10 ^ i = n / 10 ^ (i + 1) := by rw [Nat.div_div_eq_div_mul, Nat.pow_succ, Nat.mul_comm]
    rw [padD, ih, e, padD]; rfl
theorem padD_dec {n i : Nat} (h1 : n < 10 ^ i) (h2 : i = 1 ∨ n / 10 ^ (i - 1) ≠ 0) (h0 : 1 ≤ i) : padD i n = Lib.decDigits n := by
  have hl : (Lib.decDigits n).length = i := by
    rw [Lib.decDigits_length]
    rcases h2 with rfl | h2
    · exact Lib.nDigits_small (by simpa using h1)
    · obtain ⟨k, rfl⟩ : ∃ k, i = k + 1 := ⟨i - 1, by omega⟩
      rw [Nat.add_sub_cancel] at h2
      refine Lib.nDigits_unique k n ?_ h1
      rcases Nat.lt_or_ge n (10 ^ k) with h | h
      · exact absurd (Nat.div_eq_of_lt h) h2
      · exact h
  rw [padD_eq i n h1 h0, hl, Nat.sub_self]; rfl
theorem dig_small {n i : Nat} (hn : n < 9223372036854775808) (h : n / 10 ^ i ≠ 0) : i ≤ 18 := by
  rcases Nat.lt_or_ge 18 i with h' | h'
  · exfalso
    apply h
    refine Nat.div_eq_of_lt (Nat.lt_of_lt_of_le hn ?_)
    exact Nat.le_trans (by decide) (Nat.pow_le_pow_right (show 0 < 10 by decide) (show 19 ≤ i by omega))
  · exact h'
theorem byte_nat {d : Nat} (h : d < 10) : ((48 + d : Nat) : Int) = ((UInt8.ofNat (48 + d)).toNat : Int) := by
  rw [UInt8.toNat_ofNat_of_lt' (Nat.lt_of_lt_of_le (show 48 + d < 256 by omega) (by decide))]
theorem div_ten {n i : Nat} : n / 10 ^ i / 10 = n / 10 ^ (i + 1) := by rw [Nat.div_div_eq_div_mul, Nat.pow_succ]
theorem nil_ne : (([] : List AV) ≠ []) = False := by simp
theorem w_sDec {n : Nat} (hn : n < 9223372036854775808) : CW Tryz.prog 178 [.int .i64 n] (.str (Lib.decDigits n)) := by
  refine cw (by kernel_rfl) (by simp [AV.pure, AV.pureL, natA_pure, natI_pure, natS_pure]) (by simp [AV.pure, AV.pureL, natA_pure, natI_pure, natS_pure]) ?_
  (refine callOk_of_wpc (W := fun _ => false) false hm' Tryz.func178 rfl (by kernel_rfl) (Nat.le_of_ble_eq_true rfl) (go_start ?_); generalize hQ : Post Tryz.prog Tryz.f178 _ _ _ _ _ = Q; simp only [stIn, matL, matA, st00])
  simp (disch := omega) only [go_sem, ↓k_cond, ↓x_idx, ↓k_block, Nat.reduceEqDiff, Nat.reduceBEq, ↓reduceIte, reduceCtorEq]
  refine k_loop (fun (i : Nat) st => st.fr 0 = .int .i64 n ∧ st.fr 4 = .int .i64 (n / 10 ^ i : Nat) ∧ DecV n i (st.fr 3) st.h st.nx ∧ 0 < st.nx ∧ (i = 0 ∨ i = 1 ∨ n / 10 ^ (i - 1) ≠ 0) ∧ i ≤ 19) (fun i => 20 - i) 0
    ⟨(by simp [upd_app] <;> omega), by simp [upd_app], .inl ⟨rfl, (by simp [upd_app] <;> omega), by simp [upd_app]⟩, (by simp <;> omega), .inl rfl, by omega⟩ ?_
  rintro i ⟨fr, h, nx⟩ ⟨g0, g4, gv, hnx, hi, hl⟩ J hJ
  simp only at g0 g4 gv hnx
  have hd : n / 10 ^ i % 10 < 10 := Nat.mod_lt _ (by decide)
  have h19 : n / 10 ^ i ≠ 0 → i ≤ 18 := dig_small hn
  have hps := padD_step n i
  have hex : n / 10 ^ i = 0 → 1 ≤ i → padD i n = Lib.decDigits n := fun h0 h1 => by
    have hlt : n < 10 ^ i := by
      rcases Nat.lt_or_ge n (10 ^ i) with h | h
      · exact h
      · exact absurd h0 (Nat.ne_of_gt (Nat.div_pos h (Nat.pow_pos (by decide))))
    exact padD_dec hlt (by omega) h1
  have hw : ∀ d : Nat, d < 10 → IntKind.u8.wrap (((48 + d : Nat) : Int)) = ((UInt8.ofNat (48 + d)).toNat : Int) := fun d hd => by rw [← byte_nat hd, wrapU8 (by omega) (by omega)]
  have hdiv : n / 10 ^ i / 10 = n / 10 ^ (i + 1) := div_ten
  have key : ∀ (st : St), st.fr 0 = .int .i64 n → st.fr 4 = .int .i64 ((n / 10 ^ i / 10 : Nat) : Int) → DecV n (i + 1) (st.fr 3) st.h st.nx → 0 < st.nx → (i = 0 ∨ n / 10 ^ i ≠ 0) → J st := by
    intro st k0 k4 kv kx kd
    have hl' : i ≤ 18 := kd.elim (fun h => by omega) h19
    exact hJ (i + 1) st ⟨k0, by rw [k4, hdiv], kv, kx, kd.elim (fun h => .inr (.inl (by omega))) (fun h => .inr (.inr h)), by omega⟩ (by omega)
  have hzn : n / 10 ^ i ≤ n := Nat.div_le_self _ _
  clear hJ hi h19 hdiv
  generalize n / 10 ^ i = z at *
  obtain ⟨e, he⟩ : ∃ e, z % 10 = e := ⟨_, rfl⟩
  rw [he] at hd hps
  clear hw
  have hb : bytA (padD (i + 1) n) = .int .u8 ((48 + e : Nat) : Int) :: bytA (padD i n) := by rw [hps, byte_nat hd]; rfl
  have hbl : (bytA (padD i n)).length = i := by rw [bytA_length, padD_len]
  rcases gv with ⟨rfl, g3, hm⟩ | ⟨rfl, g3⟩ | ⟨hi2, id, ex, hid, g3, hm⟩
  · clear hex hbl
    simp (disch := omega) only [go_sem, ↓k_cond, ↓x_idx, ↓k_block, Nat.reduceEqDiff, Nat.reduceBEq, ↓reduceIte, reduceCtorEq, g0, g4, g3, hm, he, nil_ne]
    exact key _ (by simp [upd_app, g0] <;> omega) (by simp [upd_app] <;> omega) (.inr (.inl ⟨rfl, by simp [upd_app, hb]; rfl⟩)) hnx (.inl rfl)
  · have hn1 : (bytA (padD 1 n) = []) = False := by
      refine eq_false fun h => ?_
      rw [h] at hbl; simp at hbl
    by_cases hz0 : z = 0
    · have hfin := hex hz0 (by omega)
      simp (disch := omega) only [go_sem, ↓k_cond, ↓x_idx, ↓k_block, Nat.reduceEqDiff, Nat.reduceBEq, ↓reduceIte, reduceCtorEq, g0, g4, g3, hbl, hz0, conA_sl, bytesOf_bytA]
      rw [← hQ]
      exact post_one (.inl rfl) rfl (by simp [upd_app, hfin]) rfl
    · clear hex
      simp (disch := omega) only [go_sem, ↓k_cond, ↓x_idx, ↓k_block, Nat.reduceEqDiff, Nat.reduceBEq, ↓reduceIte, reduceCtorEq, g0, g4, g3, he, hz0, hbl, hn1, reach]
      exact key _ (by simp [upd_app, g0] <;> omega) (by simp [upd_app] <;> omega) (.inr (.inr ⟨by omega, nx, false, by simp, by simp [upd_app], by simp [upd_app, hb]⟩)) (by simp) (.inr hz0)
  · have hn1 : (bytA (padD i n) = []) = False := by
      refine eq_false fun h => ?_
      rw [h] at hbl; simp at hbl; omega
    by_cases hz0 : z = 0
    · have hfin := hex hz0 (by omega)
      simp (disch := omega) only [go_sem, ↓k_cond, ↓x_idx, ↓k_block, Nat.reduceEqDiff, Nat.reduceBEq, ↓reduceIte, reduceCtorEq, g0, g4, g3, hm, hbl, hz0, conA_ref, bytesOf_bytA, List.take_of_length_le]
      rw [← hQ]
      exact post_one (.inl rfl) rfl (by simp [upd_app, hfin]) rfl
    · clear hex
      simp (disch := omega) only [go_sem, ↓k_cond, ↓x_idx, ↓k_block, Nat.reduceEqDiff, Nat.reduceBEq, ↓reduceIte, reduceCtorEq, g0, g4, g3, hm, he, hz0, hbl, hn1, reach, List.take_of_length_le]
      exact key _ (by simp [upd_app, g0] <;> omega) (by simp [upd_app] <;> omega) (.inr (.inr ⟨by omega, nx, false, by simp, by simp [upd_app]; omega, by simp [upd_app, hb]⟩)) (by simp) (.inr hz0)
theorem dec_bound {n k : Nat} (h : (enc B9 n).length ≤ k) (hk : 0 < k) : (Lib.decDigits n).length ≤ 9 * k := by
  have h1 : n < B9 ^ k := Nat.lt_of_lt_of_le (enc_len_pow B9_gt) (Nat.pow_le_pow_right (by decide) h)
  have h2 : B9 = 10 ^ 9 := rfl
  rw [h2, ← Nat.pow_mul] at h1
  exact decD_len h1 (by omega)
theorem len9_63 {d : Nat} (h : d < 1000000000) : (d + 1000000000 : Nat) < 9223372036854775808 := by omega
attribute [go_sem] w_sDec
theorem w_sNatText {n : Nat} (hn : (enc B9 n).length ≤ 274877906944) : CW Tryz.prog 164 [natS n] (.str (Lib.decDigits n)) := by
  refine cw (by kernel_rfl) (by simp [AV.pure, AV.pureL, natA_pure, natI_pure, natS_pure]) (by simp [AV.pure, AV.pureL, natA_pure, natI_pure, natS_pure]) ?_
  by_cases hz : n = 0
  · subst hz
    rw [decD_zero]
    (refine callOk_of_wpc (W := fun _ => false) false hm' Tryz.func164 rfl (by kernel_rfl) (Nat.le_of_ble_eq_true rfl) (go_start ?_); generalize hQ : Post Tryz.prog Tryz.f164 _ _ _ _ _ = Q; simp only [stIn, matL, matA, st00, natS])
    simp (disch := omega) only [go_sem, ↓k_cond, ↓x_idx, ↓k_block, Nat.reduceEqDiff, Nat.reduceBEq, ↓reduceIte, reduceCtorEq, enc_zero, natA_nil, List.length_nil]
    rw [← hQ]
    exact post_one (.inl rfl) rfl (by simp [upd_app] <;> omega) rfl
  have hpos := enc_len_pos B9_gt hz
  obtain ⟨L, hL⟩ : ∃ L, (enc B9 n).length = L := ⟨_, rfl⟩
  rw [hL] at hn hpos
  obtain ⟨t, ht⟩ := get_some (xs := enc B9 n) (i := L - 1) (by omega)
  have htv := enc_at B9_gt ht
  have htop := top_lt (n := n) B9_gt (by omega)
  rw [hL] at htop
  have htt : t = n / B9 ^ (L - 1) := by rw [htv]; exact Nat.mod_eq_of_lt htop
  have ht9 : t < 1000000000 := by rw [htt]; exact htop
  have e1 : ((L : Int) - 1).toNat = L - 1 := by omega
  have hdl : ∀ i, (Lib.decDigits (n / B9 ^ i)).length ≤ 4611686018427387904 := fun i => by
    have := dec_bound (n := n / B9 ^ i) (k := 274877906944) (Nat.le_trans (enc_len_mono B9_gt (Nat.div_le_self _ _)) (by rw [hL]; exact hn)) (by decide)
    omega
  have hd0 := w_sDec (n := t) (by omega)
  (refine callOk_of_wpc (W := fun _ => false) false hm' Tryz.func164 rfl (by kernel_rfl) (Nat.le_of_ble_eq_true rfl) (go_start ?_); generalize hQ : Post Tryz.prog Tryz.f164 _ _ _ _ _ = Q; simp only [stIn, matL, matA, st00, natS])
  simp (disch := omega) only [go_sem, ↓k_cond, ↓x_idx, ↓k_block, Nat.reduceEqDiff, Nat.reduceBEq, ↓reduceIte, reduceCtorEq, hL, e1, ht, hd0]
  (repeat (with_reducible refine Or.inr ?_))
  refine k_loop (fun (i : Nat) st => st.fr 0 = natS n ∧ st.fr 3 = .str (Lib.decDigits (n / B9 ^ i)) ∧ st.fr 4 = .int .i64 ((i : Int) - 1) ∧ i < L) (fun i => i) (L - 1) ⟨(by simp [upd_app, natS] <;> omega), by simp [upd_app, htt], by simp [upd_app]; omega, by omega⟩ ?_
  rintro i ⟨fr, h, nx⟩ ⟨g0, g3, g4, hi⟩ J hJ
  simp only [natS] at g0 g3 g4
  by_cases hi0 : i = 0
  · subst hi0
    rw [Nat.pow_zero, Nat.div_one] at g3
    simp (disch := omega) only [go_sem, ↓k_cond, ↓x_idx, ↓k_block, Nat.reduceEqDiff, Nat.reduceBEq, ↓reduceIte, reduceCtorEq, g0, g3, g4]
    rw [← hQ]
    exact post_one (.inl rfl) rfl (by simp [upd_app] <;> omega) rfl
  · obtain ⟨k, rfl⟩ : ∃ k, i = k + 1 := ⟨i - 1, by omega⟩
    obtain ⟨d, hd⟩ := get_some (xs := enc B9 n) (i := k) (by omega)
    have hdv := enc_at B9_gt hd
    have hd9 : d < 1000000000 := by rw [hdv]; exact Nat.mod_lt _ (by decide)
    have e2 : (((k + 1 : Nat) : Int) - 1).toNat = k := by omega
    have hdd := w_sDec (n := d + 1000000000) (by omega)
    rw [decD_nine hd9] at hdd
    have hcat := decD_pad9 (q := n / B9 ^ (k + 1)) (r := d) (top_pos B9_gt hz (by omega)) hd9
    have hst := div_step (B := B9) (n := n) (i := k)
    rw [← hdv] at hst
    have hst' : n / B9 ^ (k + 1) * 1000000000 + d = n / B9 ^ k := hst.symm
    rw [hst'] at hcat
    have hlk := hdl (k + 1)
    have hp9 := padD_len 9 d
    have hdr : List.drop (Int.toNat 1) (49 :: padD 9 d) = padD 9 d := rfl
    simp (disch := omega) only [go_sem, ↓k_cond, ↓x_idx, ↓k_block, Nat.reduceEqDiff, Nat.reduceBEq, ↓reduceIte, reduceCtorEq, g0, g3, g4, hL, e2, hd, hdd, hp9, List.length_cons, List.take_of_length_le, hdr]
    (repeat (with_reducible refine Or.inr ?_))
    exact hJ k _ ⟨(by simp [upd_app, g0, natS] <;> omega), by simp [upd_app, hcat], by simp [upd_app], by omega⟩ (by simp)
attribute [go_sem] w_sNatText
theorem post_ownB {P : Program} {fn : Func} {n0 : Nat} {fl : Bool} {t u : Tmp} {id n len T : Nat} {r sp : List AV} {ex b : Bool} {st : St} {e : Ex} (he : e = .ret ∨ e = .normal) (hr : fn.results.toList = [.tmp t, .tmp u]) (hv : st.fr t = .ref id n 0 len) (hw : st.fr u = .bool b)
    (hlv : (st.h id).lv = true) (hn : (st.h id).xs.length = n) (hg : (st.h id).gr = true) (ht : (st.h id).t = T) (hl : len ≤ n) (hxs : (st.h id).xs.take len = r) (hsp : (if (st.h id).ex = true then (st.h id).xs.drop len else []) = sp) (hex : (st.h id).ex = ex) (hp : AV.pureL r = true) (hq : AV.pureL sp = true) :
    Post P fn n0 fl true (.tup [.own T r sp ex, .bool b]) [] e st := by
  refine ⟨by rcases he with rfl | rfl <;> trivial, .tup [.ref id n 0 len, .bool b], by rw [hr]; simp [resV, resL, resA, hv, hw], [id], ?_, .inl rfl⟩
  simp only [if_true]
  refine ⟨?_, by simp⟩
  have key : ownA st 7 (.ref id n 0 len) = some (.own T r sp ex, [id]) := by
    rw [ownA_ref, if_pos ⟨hlv, hn, rfl, hl, hg⟩, hxs, snapLo_pure hp, ht]
    rw [hex] at hsp
    simp only [hex, Option.bind_some]
    cases ex with
    | true => simp only [if_true] at hsp ⊢; rw [hsp, snapLo_pure hq]; simp
    | false => simp only [Bool.false_eq_true, if_false] at hsp ⊢; rw [← hsp]; simp
  have : ownA st (7 + 1) (.tup [.ref id n 0 len, .bool b]) = some (.tup [.own T r sp ex, .bool b], [id]) := by
    rw [ownA]
    have hb : ownA st 7 (.bool b) = some (.bool b, []) := ownA_pure rfl
    simp [AV.pure, AV.pureL, snapL, key, hb]
  exact this
theorem postT_two {P : Program} {fn : Func} {n0 : Nat} {fl : Bool} {t u : Tmp} {v w : AV} {st : St} {e : Ex} (he : e = .ret ∨ e = .normal) (hr : fn.results.toList = [.tmp t, .tmp u]) (hv : st.fr t = v) (hw : st.fr u = w) (hp : v.pure = true) (hq : w.pure = true) :
    Post P fn n0 fl true (.tup [v, w]) [] e st := by
  refine ⟨by rcases he with rfl | rfl <;> trivial, .tup [v, w], by rw [hr]; simp [resV, resL, resA, hv, hw], [], ?_, .inl rfl⟩
  simp only [if_true]
  exact ⟨ownA_pure (by simp [AV.pure, AV.pureL, hp, hq]), by simp⟩
attribute [go_sem] optT_s optT_n
theorem w_sFits {m : Nat} {q : Rat} (h : m ≤ 274877906944) : CW Tryz.prog 136 [rS m q] (.bool (okR q)) := by
  refine cw (by kernel_rfl) (by simp [AV.pure, AV.pureL, natA_pure, natI_pure, natS_pure]) (by simp [AV.pure, AV.pureL, natA_pure, natI_pure, natS_pure]) ?_
  refine callOk_told (x := rS m q) told_rS (by simp) (by simp [AV.pure, AV.pureL, natA_pure, natI_pure, natS_pure]) fun ha => ?_
  obtain ⟨l1, l2⟩ := numS_len ha
  have h1 := w_sNatText (n := q.num.natAbs) (by have := len9 ha.1; omega)
  have h2 := w_sNatText (n := q.den) (by have := len9 ha.2; omega)
  rw [rS_eq ha, ratS, qd, okR]
  simp only [natS] at h1 h2
  generalize Lib.decDigits q.num.natAbs = s1 at *
  generalize Lib.decDigits q.den = s2 at *
  by_cases c1 : s1.length ≤ 200 <;> by_cases c2 : s2.length ≤ 200
  all_goals
    (refine callOk_of_wpc (W := fun _ => false) false hm' Tryz.func136 rfl (by kernel_rfl) (Nat.le_of_ble_eq_true rfl) (go_start ?_); generalize hQ : Post Tryz.prog Tryz.f136 _ _ _ _ _ = Q; simp only [stIn, matL, matA, st00, natS])
    simp (disch := omega) only [go_sem, ↓k_cond, ↓x_idx, ↓k_block, Nat.reduceEqDiff, Nat.reduceBEq, ↓reduceIte, reduceCtorEq, h1, h2]
    (repeat (with_reducible refine Or.inr ?_))
    rw [← hQ]
    exact post_one (.inl rfl) rfl (by simp [upd_app, c1, c2]) rfl
attribute [go_sem] w_sFits
theorem w_sShow {m : Nat} {q : Rat} (h : m ≤ 274877906944) : CW Tryz.prog 137 [rS m q] (.str (numS q)) := by
  refine cw (by kernel_rfl) (by simp [AV.pure, AV.pureL, natA_pure, natI_pure, natS_pure]) (by simp [AV.pure, AV.pureL, natA_pure, natI_pure, natS_pure]) ?_
  refine callOk_told (x := rS m q) told_rS (by simp) (by simp [AV.pure, AV.pureL, natA_pure, natI_pure, natS_pure]) fun ha => ?_
  obtain ⟨l1, l2⟩ := numS_len ha
  have h1 := w_sNatText (n := q.num.natAbs) (by have := len9 ha.1; omega)
  have h2 := w_sNatText (n := q.den) (by have := len9 ha.2; omega)
  have h3 := w_sCmp1 (a := q.den) (by have := len9 ha.2; omega)
  rw [rS_eq ha, ratS, qd, numS]
  simp only [natS] at h1 h2 h3
  generalize Lib.decDigits q.num.natAbs = s1 at *
  generalize Lib.decDigits q.den = s2 at *
  by_cases c1 : q.num < 0 <;> by_cases c2 : q.den = 1
  · rw [c2, cmpI_eq] at h3
    simp only [c1, c2, decide_true, if_true]
    rw [c2] at h2
    (refine callOk_of_wpc (W := fun _ => false) false hm' Tryz.func137 rfl (by kernel_rfl) (Nat.le_of_ble_eq_true rfl) (go_start ?_); generalize hQ : Post Tryz.prog Tryz.f137 _ _ _ _ _ = Q; simp only [stIn, matL, matA, st00, natS])
    simp (disch := omega) only [go_sem, ↓k_cond, ↓x_idx, ↓k_block, Nat.reduceEqDiff, Nat.reduceBEq, ↓reduceIte, reduceCtorEq, h1, h2, h3, List.length_append, List.length_cons, List.length_nil]
    (repeat (with_reducible refine Or.inr ?_))
    rw [← hQ]
    exact post_one (.inl rfl) rfl (by simp [upd_app]) rfl
  · have hc0 : cmpI q.den 1 ≠ 0 := cmpI_ne c2
    simp only [c1, c2, decide_true, if_true, if_false]
    (refine callOk_of_wpc (W := fun _ => false) false hm' Tryz.func137 rfl (by kernel_rfl) (Nat.le_of_ble_eq_true rfl) (go_start ?_); generalize hQ : Post Tryz.prog Tryz.f137 _ _ _ _ _ = Q; simp only [stIn, matL, matA, st00, natS])
    simp (disch := omega) only [go_sem, ↓k_cond, ↓x_idx, ↓k_block, Nat.reduceEqDiff, Nat.reduceBEq, ↓reduceIte, reduceCtorEq, h1, h2, h3, List.length_append, List.length_cons, List.length_nil]
    (repeat (with_reducible refine Or.inr ?_))
    rw [← hQ]
    exact post_one (.inl rfl) rfl (by simp [upd_app]) rfl
  · rw [c2, cmpI_eq] at h3
    simp only [c1, c2, decide_false, if_true, if_false]
    rw [c2] at h2
    (refine callOk_of_wpc (W := fun _ => false) false hm' Tryz.func137 rfl (by kernel_rfl) (Nat.le_of_ble_eq_true rfl) (go_start ?_); generalize hQ : Post Tryz.prog Tryz.f137 _ _ _ _ _ = Q; simp only [stIn, matL, matA, st00, natS])
    simp (disch := omega) only [go_sem, ↓k_cond, ↓x_idx, ↓k_block, Nat.reduceEqDiff, Nat.reduceBEq, ↓reduceIte, reduceCtorEq, h1, h2, h3, List.length_append, List.length_cons, List.length_nil]
    (repeat (with_reducible refine Or.inr ?_))
    rw [← hQ]
    exact post_one (.inl rfl) rfl (by simp [upd_app]) rfl
  · have hc0 : cmpI q.den 1 ≠ 0 := cmpI_ne c2
    simp only [c1, c2, decide_false, if_false]
    (refine callOk_of_wpc (W := fun _ => false) false hm' Tryz.func137 rfl (by kernel_rfl) (Nat.le_of_ble_eq_true rfl) (go_start ?_); generalize hQ : Post Tryz.prog Tryz.f137 _ _ _ _ _ = Q; simp only [stIn, matL, matA, st00, natS])
    simp (disch := omega) only [go_sem, ↓k_cond, ↓x_idx, ↓k_block, Nat.reduceEqDiff, Nat.reduceBEq, ↓reduceIte, reduceCtorEq, h1, h2, h3, List.length_append, List.length_cons, List.length_nil]
    (repeat (with_reducible refine Or.inr ?_))
    rw [← hQ]
    exact post_one (.inl rfl) rfl (by simp [upd_app]) rfl
attribute [go_sem] w_sShow
theorem w_sGive {m : Nat} {q : Rat} (h : m ≤ 274877906944) : CW Tryz.prog 110 [rS m q] (optT (toldR q)) := by
  refine cw (by kernel_rfl) (by simp [AV.pure, AV.pureL, natA_pure, natI_pure, natS_pure]) (by simp [AV.pure, AV.pureL, natA_pure, natI_pure, natS_pure]) ?_
  have h1 := w_sFits (m := m) (q := q) h
  have h2 := w_sShow (m := m) (q := q) h
  rw [toldR]
  by_cases c : okR q = true
  · rw [if_pos c, optT_s]
    rw [c] at h1
    (refine callOk_of_wpc (W := fun _ => false) false hm' Tryz.func110 rfl (by kernel_rfl) (Nat.le_of_ble_eq_true rfl) (go_start ?_); generalize hQ : Post Tryz.prog Tryz.f110 _ _ _ _ _ = Q; simp only [stIn, matL, matA, st00])
    simp (disch := omega) only [go_sem, ↓k_cond, ↓x_idx, ↓k_block, Nat.reduceEqDiff, Nat.reduceBEq, ↓reduceIte, reduceCtorEq, h1, h2]
    (repeat (with_reducible refine Or.inr ?_))
    rw [← hQ]
    exact post_two (.inl rfl) rfl (by simp [upd_app] <;> omega) (by simp [upd_app] <;> omega) rfl rfl
  · rw [if_neg c, optT_n]
    simp only [Bool.not_eq_true] at c
    rw [c] at h1
    (refine callOk_of_wpc (W := fun _ => false) false hm' Tryz.func110 rfl (by kernel_rfl) (Nat.le_of_ble_eq_true rfl) (go_start ?_); generalize hQ : Post Tryz.prog Tryz.f110 _ _ _ _ _ = Q; simp only [stIn, matL, matA, st00])
    simp (disch := omega) only [go_sem, ↓k_cond, ↓x_idx, ↓k_block, Nat.reduceEqDiff, Nat.reduceBEq, ↓reduceIte, reduceCtorEq, h1]
    (repeat (with_reducible refine Or.inr ?_))
    rw [← hQ]
    exact post_two (.inl rfl) rfl (by simp [upd_app] <;> omega) (by simp [upd_app] <;> omega) rfl rfl
attribute [go_sem] w_sGive
theorem w_sGive2 {m : Nat} {q : Rat} (h : m ≤ 274877906944) : CW Tryz.prog 63 [rS m q] (optT (toldR q)) := by
  refine cw (by kernel_rfl) (by simp [AV.pure, AV.pureL, natA_pure, natI_pure, natS_pure]) (by simp [AV.pure, AV.pureL, natA_pure, natI_pure, natS_pure]) ?_
  have h1 := w_sGive (m := m) (q := q) h
  cases hq : toldR q with
  | none =>
    rw [hq] at h1
    (refine callOk_of_wpc (W := fun _ => false) false hm' Tryz.func63 rfl (by kernel_rfl) (Nat.le_of_ble_eq_true rfl) (go_start ?_); generalize hQ : Post Tryz.prog Tryz.f63 _ _ _ _ _ = Q; simp only [stIn, matL, matA, st00])
    simp (disch := omega) only [go_sem, ↓k_cond, ↓x_idx, ↓k_block, Nat.reduceEqDiff, Nat.reduceBEq, ↓reduceIte, reduceCtorEq, h1]
    (repeat (with_reducible refine Or.inr ?_))
    rw [← hQ]
    exact post_two (.inl rfl) rfl (by simp [upd_app] <;> omega) (by simp [upd_app] <;> omega) rfl rfl
  | some s =>
    rw [hq] at h1
    (refine callOk_of_wpc (W := fun _ => false) false hm' Tryz.func63 rfl (by kernel_rfl) (Nat.le_of_ble_eq_true rfl) (go_start ?_); generalize hQ : Post Tryz.prog Tryz.f63 _ _ _ _ _ = Q; simp only [stIn, matL, matA, st00])
    simp (disch := omega) only [go_sem, ↓k_cond, ↓x_idx, ↓k_block, Nat.reduceEqDiff, Nat.reduceBEq, ↓reduceIte, reduceCtorEq, h1]
    (repeat (with_reducible refine Or.inr ?_))
    rw [← hQ]
    exact post_two (.inl rfl) rfl (by simp [upd_app] <;> omega) (by simp [upd_app] <;> omega) rfl rfl
def optTL : Option (List (List UInt8)) → AV
  | some ts => .tup [.own 9 (strA ts) [] false, .bool true]
  | none => .tup [.nil, .bool false]
theorem s_GiveAll {m : Nat} {qs : List Rat} (hmb : m ≤ 274877906944) (hl : qs.length ≤ 1000) (h0 : qs ≠ []) : CallOk Tryz.prog 94 [lS m qs] (optTL (qs.mapM toldR)) [] := by
  obtain ⟨n, hn⟩ : ∃ n, qs.length = n := ⟨_, rfl⟩
  have hn0 := List.length_pos_iff.2 h0
  rw [hn] at hl hn0
  (refine callOk_of_wpc (W := fun _ => false) true hm' Tryz.func94 rfl (by kernel_rfl) (Nat.le_of_ble_eq_true rfl) (go_start ?_); generalize hQ : Post Tryz.prog Tryz.f94 _ _ _ _ _ = Q; simp only [stIn, matL, matA, st00])
  simp (disch := omega) only [go_sem, ↓k_cond, ↓x_idx, ↓k_block, Nat.reduceEqDiff, Nat.reduceBEq, ↓reduceIte, reduceCtorEq, hn]
  refine k_loop (fun (⟨i, ts⟩ : Nat × List (List UInt8)) st => st.fr 0 = lS m qs ∧ st.fr 4 = .ref 0 i 0 i ∧ st.fr 10 = .int .i64 n ∧ st.fr 11 = .int .i64 i ∧ st.h 0 = ⟨9, strA ts, (i == 0), true, true⟩ ∧ 0 < st.nx ∧ (ts.length = i) ∧ (i ≤ n) ∧ ((qs.take i).mapM toldR = some ts)) (fun (⟨i, ts⟩ : Nat × List (List UInt8)) => n - i) (0, [])
    ⟨(by simp [upd_app, strA] <;> omega), (by simp [upd_app, strA] <;> omega), (by simp [upd_app, strA] <;> omega), (by simp [upd_app, strA] <;> omega), (by simp [upd_app, strA] <;> omega), (by simp <;> omega), rfl, by omega, rfl⟩ ?_
  rintro ⟨i, ts⟩ ⟨fr, h, nx⟩ ⟨g0, g4, g10, g11, hm0, hnx, htl, hi, hq⟩ J hJ
  simp only at g0 g4 g10 g11 hm0 hnx
  by_cases hin : i < n
  · obtain ⟨q, hqi⟩ := get_some (xs := qs) (i := i) (by omega)
    have hg := w_sGive (m := m) (q := q) hmb
    cases hp : toldR q with
    | none =>
      rw [mapM_fail hqi hp, optTL] at hQ
      rw [hp] at hg
      simp (disch := omega) only [go_sem, ↓k_cond, ↓x_idx, ↓k_block, Nat.reduceEqDiff, Nat.reduceBEq, ↓reduceIte, reduceCtorEq, g0, g4, g10, g11, hqi, hg]
      (repeat (with_reducible refine Or.inr ?_))
      rw [← hQ]
      exact postT_two (.inl rfl) rfl (by simp [upd_app] <;> omega) (by simp [upd_app] <;> omega) rfl rfl
    | some s =>
      have hmt := mapM_take hq hqi hp
      rw [hp] at hg
      have hel : (strA ts).length = i := by rw [strA_length, htl]
      simp (disch := omega) only [go_sem, ↓k_cond, ↓x_idx, ↓k_block, Nat.reduceEqDiff, Nat.reduceBEq, ↓reduceIte, reduceCtorEq, g0, g4, g10, g11, hqi, hg, hm0, hel, reach]
      (repeat (with_reducible refine Or.inr ?_))
      exact hJ (i + 1, ts ++ [s]) _ ⟨(by simp [upd_app, g0] <;> omega), (by simp [upd_app] <;> omega), (by simp [upd_app, g10] <;> omega), (by simp [upd_app] <;> omega), by simp [upd_app, strA], (by simp <;> omega), by simp [htl], hin, hmt⟩ (by simp only; omega)
  · obtain rfl : i = n := by omega
    rw [List.take_of_length_le (by omega)] at hq
    rw [hq, optTL] at hQ
    simp (disch := omega) only [go_sem, ↓k_cond, ↓x_idx, ↓k_block, Nat.reduceEqDiff, Nat.reduceBEq, ↓reduceIte, reduceCtorEq, g0, g4, g10, g11]
    rw [← hQ]
    have hz : (i == 0) = false := by simp; omega
    exact post_ownB (id := 0) (n := i) (len := i) (.inl rfl) rfl (by simp [upd_app] <;> omega) (by simp [upd_app] <;> omega) (by simp [hm0]) (by simp [hm0, strA_length, htl]) (by simp [hm0]) (by simp [hm0]) (Nat.le_refl _) (by simp only [hm0]; exact List.take_of_length_le (by rw [strA_length, htl]; exact Nat.le_refl _)) (by simp [hm0, hz]) (by simp [hm0, hz]) (strA_pure _) rfl
theorem s_GiveAll2 {m : Nat} {qs : List Rat} (hmb : m ≤ 274877906944) (hl : qs.length ≤ 1000) (h0 : qs ≠ []) : CallOk Tryz.prog 48 [lS m qs] (optTL (qs.mapM toldR)) [] := by
  have h1 := s_GiveAll hmb hl h0
  cases hq : qs.mapM toldR with
  | none =>
    rw [hq, optTL] at h1
    have hw := cw (by kernel_rfl) (by simp [AV.pure, AV.pureL, natA_pure, natI_pure, natS_pure]) (by simp [AV.pure, AV.pureL, natA_pure, natI_pure, natS_pure]) h1
    rw [optTL]
    (refine callOk_of_wpc (W := fun _ => false) true hm' Tryz.func48 rfl (by kernel_rfl) (Nat.le_of_ble_eq_true rfl) (go_start ?_); generalize hQ : Post Tryz.prog Tryz.f48 _ _ _ _ _ = Q; simp only [stIn, matL, matA, st00])
    simp (disch := omega) only [go_sem, ↓k_cond, ↓x_idx, ↓k_block, Nat.reduceEqDiff, Nat.reduceBEq, ↓reduceIte, reduceCtorEq, hw]
    (repeat (with_reducible refine Or.inr ?_))
    rw [← hQ]
    exact postT_two (.inl rfl) rfl (by simp [upd_app] <;> omega) (by simp [upd_app] <;> omega) rfl rfl
  | some ts =>
    rw [hq, optTL] at h1
    have hw := cwtW (W := fun g => g == 94) rfl (cwt (by kernel_rfl) (by simp [AV.pure, AV.pureL, natA_pure, natI_pure, natS_pure]) (strA_pure ts) rfl h1)
    have htl : ts.length ≤ 1000 := by rw [mapM_len hq]; exact hl
    rw [optTL]
    (refine callOk_of_wpc (W := fun g => g == 94) true hm' Tryz.func48 rfl (by kernel_rfl) (Nat.le_of_ble_eq_true rfl) (go_start ?_); generalize hQ : Post Tryz.prog Tryz.f48 _ _ _ _ _ = Q; simp only [stIn, matL, matA, st00])
    simp (disch := omega) only [go_sem, ↓k_cond, ↓x_idx, ↓k_block, Nat.reduceEqDiff, Nat.reduceBEq, ↓reduceIte, reduceCtorEq, hw]
    (repeat (with_reducible refine Or.inr ?_))
    rw [← hQ]
    exact post_ownB (id := 0) (n := ts.length) (len := ts.length) (.inl rfl) rfl (by simp [upd_app, strA_length]) (by simp [upd_app] <;> omega) (by simp [upd_app]) (by simp [upd_app, strA_length]) (by simp [upd_app]) (by simp [upd_app]) (Nat.le_refl _) (by simp only [upd_app, if_true, List.append_nil]; exact List.take_of_length_le (by rw [strA_length]; exact Nat.le_refl _)) (by simp [upd_app]) (by simp [upd_app]) (strA_pure _) rfl
attribute [go_sem] w_sGive2
theorem w_l08Parse {xs : List (List UInt8)} (hl : xs.length < 9223372036854775808) (hs : ∀ x ∈ xs, x.length ≤ 1000000) : CW Tryz.prog 45 [.sl 9 (strA xs) [] false] (optLS (serR xs)) := by
  refine cw (by kernel_rfl) (by simp [AV.pure, AV.pureL, natA_pure, natI_pure, natS_pure]) (by simp [AV.pure, AV.pureL, natA_pure, natI_pure, natS_pure]) ?_
  have h1 := w_sList (xs := xs) hl hs
  obtain ⟨n, hn⟩ : ∃ n, xs.length = n := ⟨_, rfl⟩
  rw [serR, hn]
  rw [hn] at hl
  by_cases c1 : 1 ≤ n
  · by_cases c2 : n ≤ 13
    · rw [if_pos ⟨c1, c2⟩]
      cases hq : listR xs with
      | none =>
        rw [hq] at h1
        (refine callOk_of_wpc (W := fun _ => false) false hm' Tryz.func45 rfl (by kernel_rfl) (Nat.le_of_ble_eq_true rfl) (go_start ?_); generalize hQ : Post Tryz.prog Tryz.f45 _ _ _ _ _ = Q; simp only [stIn, matL, matA, st00])
        simp (disch := omega) only [go_sem, ↓k_cond, ↓x_idx, ↓k_block, Nat.reduceEqDiff, Nat.reduceBEq, ↓reduceIte, reduceCtorEq, h1, strA_length, hn]
        (repeat (with_reducible refine Or.inr ?_))
        rw [← hQ]
        exact post_two (.inl rfl) rfl (by simp [upd_app] <;> omega) (by simp [upd_app] <;> omega) rfl rfl
      | some qs =>
        rw [hq] at h1
        (refine callOk_of_wpc (W := fun _ => false) false hm' Tryz.func45 rfl (by kernel_rfl) (Nat.le_of_ble_eq_true rfl) (go_start ?_); generalize hQ : Post Tryz.prog Tryz.f45 _ _ _ _ _ = Q; simp only [stIn, matL, matA, st00])
        simp (disch := omega) only [go_sem, ↓k_cond, ↓x_idx, ↓k_block, Nat.reduceEqDiff, Nat.reduceBEq, ↓reduceIte, reduceCtorEq, h1, strA_length, hn]
        (repeat (with_reducible refine Or.inr ?_))
        rw [← hQ]
        exact post_two (.inl rfl) rfl (by simp [upd_app] <;> omega) (by simp [upd_app] <;> omega) (by simp [AV.pure, AV.pureL, natA_pure, natI_pure, natS_pure]) rfl
    · rw [if_neg (by omega)]
      (refine callOk_of_wpc (W := fun _ => false) false hm' Tryz.func45 rfl (by kernel_rfl) (Nat.le_of_ble_eq_true rfl) (go_start ?_); generalize hQ : Post Tryz.prog Tryz.f45 _ _ _ _ _ = Q; simp only [stIn, matL, matA, st00])
      simp (disch := omega) only [go_sem, ↓k_cond, ↓x_idx, ↓k_block, Nat.reduceEqDiff, Nat.reduceBEq, ↓reduceIte, reduceCtorEq, strA_length, hn]
      rw [← hQ]
      exact post_two (.inl rfl) rfl (by simp [upd_app] <;> omega) (by simp [upd_app] <;> omega) rfl rfl
  · rw [if_neg (by omega)]
    obtain rfl : n = 0 := by omega
    (refine callOk_of_wpc (W := fun _ => false) false hm' Tryz.func45 rfl (by kernel_rfl) (Nat.le_of_ble_eq_true rfl) (go_start ?_); generalize hQ : Post Tryz.prog Tryz.f45 _ _ _ _ _ = Q; simp only [stIn, matL, matA, st00])
    simp (disch := omega) only [go_sem, ↓k_cond, ↓x_idx, ↓k_block, Nat.reduceEqDiff, Nat.reduceBEq, ↓reduceIte, reduceCtorEq, strA_length, hn]
    rw [← hQ]
    exact post_two (.inl rfl) rfl (by simp [upd_app] <;> omega) (by simp [upd_app] <;> omega) rfl rfl
attribute [go_sem] w_l08Parse
theorem w_l08Factors {qs : List Rat} {n : Nat} (hl : qs.length ≤ 13) (hn6 : n ≤ 6) : CW Tryz.prog 68 [lS 700 qs, .int .i64 n] (rS (64 + qs.length * 765) (facSum qs n qs.length)) := by
  refine cw (by kernel_rfl) (by simp [AV.pure, AV.pureL, natA_pure, natI_pure, natS_pure]) (by simp [AV.pure, AV.pureL, natA_pure, natI_pure, natS_pure]) ?_
  obtain ⟨L, hL⟩ : ∃ n, qs.length = n := ⟨_, rfl⟩
  rw [hL] at hl ⊢
  (refine callOk_of_wpc (W := fun _ => false) false hm' Tryz.func68 rfl (by kernel_rfl) (Nat.le_of_ble_eq_true rfl) (go_start ?_); generalize hQ : Post Tryz.prog Tryz.f68 _ _ _ _ _ = Q; simp only [stIn, matL, matA, st00])
  simp (disch := omega) only [go_sem, ↓k_cond, ↓x_idx, ↓k_block, Nat.reduceEqDiff, Nat.reduceBEq, ↓reduceIte, reduceCtorEq, hL]
  (repeat (with_reducible refine Or.inr ?_))
  refine k_loop (fun (k : Nat) st => st.fr 0 = lS 700 qs ∧ st.fr 1 = .int .i64 n ∧ st.fr 4 = .ptr 0 1 0 0 ∧ st.fr 5 = .ptr 1 1 0 0 ∧ st.fr 6 = .int .i64 k ∧ st.h 0 = ⟨41, [.agg [.bool false, .nil, .nil]], true, false, true⟩ ∧ st.h 1 = ⟨41, [rS (64 + k * 765) (facSum qs n k)], true, false, true⟩ ∧ 1 < st.nx ∧ (k ≤ L)) (fun (k : Nat) => L - k) (0)
    ⟨(by simp [upd_app, facSum] <;> omega), (by simp [upd_app, facSum] <;> omega), (by simp [upd_app, facSum] <;> omega), (by simp [upd_app, facSum] <;> omega), (by simp [upd_app, facSum] <;> omega), (by simp [upd_app, facSum] <;> omega), (by simp [upd_app, facSum] <;> omega), (by simp <;> omega), by omega⟩ ?_
  rintro k ⟨fr, h, nx⟩ ⟨g0, g1, g4, g5, g6, hm0, hm1, hnx, hk⟩ J hJ
  simp only at g0 g1 g4 g5 g6 hm0 hm1 hnx
  by_cases hin : k < L
  · obtain ⟨q, hq⟩ := get_some (xs := qs) (i := k) (by omega)
    have hgd : qs.getD k 0 = q := by rw [List.getD_eq_getElem?_getD, hq]; rfl
    have keyJ := hJ (k + 1)
    have e : 64 + (k + 1) * 765 = 64 + k * 765 + (64 + 700) + 1 := by omega
    rw [facSum, hgd, e, Rat.mul_comm q] at keyJ
    clear hJ
    simp (disch := omega) only [go_sem, ↓k_cond, ↓x_idx, ↓k_block, Nat.reduceEqDiff, Nat.reduceBEq, ↓reduceIte, reduceCtorEq, g0, g1, g4, g5, g6, hL]
    refine k_loop (fun (i : Nat) st => st.fr 0 = lS 700 qs ∧ st.fr 1 = .int .i64 n ∧ st.fr 4 = .ptr 0 1 0 0 ∧ st.fr 5 = .ptr 1 1 0 0 ∧ st.fr 6 = .int .i64 k ∧ st.fr 7 = .int .i64 (facP k i) ∧ st.fr 8 = .int .i64 i ∧ st.h = h ∧ st.nx = nx ∧ i ≤ n) (fun i => n - i) 0
      ⟨(by simp [upd_app, g0] <;> omega), (by simp [upd_app, g1] <;> omega), (by simp [upd_app, g4] <;> omega), (by simp [upd_app, g5] <;> omega), (by simp [upd_app, g6] <;> omega), by simp [upd_app, facP], (by simp [upd_app] <;> omega), rfl, rfl, by omega⟩ ?_
    rintro i ⟨fr2, h2, nx2⟩ ⟨r0, r1, r4, r5, r6, r7, r8, eh, enx, hi⟩ J2 hJ2
    simp only at r0 r1 r4 r5 r6 r7 r8 eh enx
    subst eh enx
    by_cases hin2 : i < n
    · have hw := facP_wrap (k := k) (i := i) (by omega) (by omega)
      simp (disch := omega) only [go_sem, ↓k_cond, ↓x_idx, ↓k_block, Nat.reduceEqDiff, Nat.reduceBEq, ↓reduceIte, reduceCtorEq, r0, r1, r4, r5, r6, r7, r8, hw]
      exact hJ2 (i + 1) _ ⟨(by simp [upd_app, r0] <;> omega), (by simp [upd_app, r1] <;> omega), (by simp [upd_app, r4] <;> omega), (by simp [upd_app, r5] <;> omega), (by simp [upd_app, r6] <;> omega), (by simp [upd_app] <;> omega), (by simp [upd_app] <;> omega), rfl, rfl, hin2⟩ (by omega)
    · obtain rfl : i = n := by omega
      have hb := facP_lt (k := k) (i := i) (by omega) hn6
      simp (disch := omega) only [go_sem, ↓k_cond, ↓x_idx, ↓k_block, Nat.reduceEqDiff, Nat.reduceBEq, ↓reduceIte, reduceCtorEq, r0, r1, r4, r5, r6, r7, r8, hq, hm0, hm1]
      (repeat (with_reducible refine Or.inr ?_))
      exact keyJ _ ⟨(by simp [upd_app, r0] <;> omega), (by simp [upd_app, r1] <;> omega), (by simp [upd_app, r4] <;> omega), (by simp [upd_app, r5] <;> omega), (by simp [upd_app] <;> omega), (by simp [upd_app, hm0] <;> omega), (by simp [upd_app] <;> omega), (by simp <;> omega), hin⟩ (by omega)
  · obtain rfl : k = L := by omega
    simp (disch := omega) only [go_sem, ↓k_cond, ↓x_idx, ↓k_block, Nat.reduceEqDiff, Nat.reduceBEq, ↓reduceIte, reduceCtorEq, g0, g1, g4, g5, g6, hm0, hm1, hL]
    (repeat (with_reducible refine Or.inr ?_))
    rw [← hQ]
    exact post_cell1 (id := 0) (x := rS (64 + k * 765) (facSum qs n k)) (.inl rfl) rfl o_sRat (by simp [upd_app, g4] <;> omega) (by simp [upd_app]) (by simp [upd_app]) ld_sRat (by simp [AV.pure, AV.pureL])
theorem s_FactorMoment {xs : List (List UInt8)} {n : Int} (hl : xs.length < 9223372036854775808) (hs : ∀ x ∈ xs, x.length ≤ 1000000) : CallOk Tryz.prog 27 [.sl 9 (strA xs) [] false, .int .i64 n] (optT (facT xs n)) [] := by
  have h1 := w_l08Parse (xs := xs) hl hs
  have h2 := w_sIn (n := n) (a := 0) (b := 6)
  unfold facT
  cases hq : serR xs with
  | none =>
    rw [hq] at h1
    (refine callOk_of_wpc (W := fun _ => false) false hm' Tryz.func27 rfl (by kernel_rfl) (Nat.le_of_ble_eq_true rfl) (go_start ?_); generalize hQ : Post Tryz.prog Tryz.f27 _ _ _ _ _ = Q; simp only [stIn, matL, matA, st00])
    simp (disch := omega) only [go_sem, ↓k_cond, ↓x_idx, ↓k_block, Nat.reduceEqDiff, Nat.reduceBEq, ↓reduceIte, reduceCtorEq, h1]
    (repeat (with_reducible refine Or.inr ?_))
    rw [← hQ]
    exact post_two (.inl rfl) rfl (by simp [upd_app] <;> omega) (by simp [upd_app] <;> omega) rfl rfl
  | some qs =>
    rw [hq] at h1
    obtain ⟨_, _, h4, h5⟩ := serR_some hq
    by_cases c : 0 ≤ n ∧ n ≤ 6
    · obtain ⟨k, rfl⟩ : ∃ k : Nat, n = k := ⟨n.toNat, by omega⟩
      simp only [if_pos c, Int.toNat_natCast]
      have h3 := w_l08Factors (qs := qs) (n := k) h5 (by omega)
      have h6 := w_sGive2 (m := 64 + qs.length * 765) (q := facSum qs k qs.length) (by omega)
      simp only [decide_eq_true c] at h2
      cases ht : toldR (facSum qs k qs.length)
      all_goals
        rw [ht] at h6
        (refine callOk_of_wpc (W := fun _ => false) false hm' Tryz.func27 rfl (by kernel_rfl) (Nat.le_of_ble_eq_true rfl) (go_start ?_); generalize hQ : Post Tryz.prog Tryz.f27 _ _ _ _ _ = Q; simp only [stIn, matL, matA, st00])
        simp (disch := omega) only [go_sem, ↓k_cond, ↓x_idx, ↓k_block, Nat.reduceEqDiff, Nat.reduceBEq, ↓reduceIte, reduceCtorEq, h1, h2, h3, h6]
        (repeat (with_reducible refine Or.inr ?_))
        rw [← hQ]
        exact post_two (.inl rfl) rfl (by simp [upd_app] <;> omega) (by simp [upd_app] <;> omega) rfl rfl
    · rw [decide_eq_false c] at h2
      simp only [if_neg c]
      (refine callOk_of_wpc (W := fun _ => false) false hm' Tryz.func27 rfl (by kernel_rfl) (Nat.le_of_ble_eq_true rfl) (go_start ?_); generalize hQ : Post Tryz.prog Tryz.f27 _ _ _ _ _ = Q; simp only [stIn, matL, matA, st00])
      simp (disch := omega) only [go_sem, ↓k_cond, ↓x_idx, ↓k_block, Nat.reduceEqDiff, Nat.reduceBEq, ↓reduceIte, reduceCtorEq, h1, h2]
      (repeat (with_reducible refine Or.inr ?_))
      rw [← hQ]
      exact post_two (.inl rfl) rfl (by simp [upd_app] <;> omega) (by simp [upd_app] <;> omega) rfl rfl
attribute [go_sem] w_l08Factors
section
open Go.Shelf
def lays283_ren : Go.Shelf.Ren := ⟨fun | 283 => 189 | n => n, fun | 3 => 3 | 9 => 9 | 4 => 4 | n => n, fun | n => n⟩
theorem lays283 : Go.Proofs.Lays.n283 Tryz.prog lays283_ren := {
  mixed := by kernel_rfl
  f283 := Tryz.func189.trans (congrArg some (by kernel_rfl))
  t3 := Tryz.underlying3
  a3 := Tryz.isAgg3
  z3 := Tryz.sizeOf3
  v3 := Tryz.zeroValue3
  t4 := Tryz.underlying4
  a4 := Tryz.isAgg4
  z4 := Tryz.sizeOf4
  v4 := Tryz.zeroValue4
  t9 := Tryz.underlying9
  a9 := Tryz.isAgg9
  z9 := Tryz.sizeOf9
  v9 := Tryz.zeroValue9 }
def lays284_ren : Go.Shelf.Ren := ⟨fun | 284 => 190 | 129 => 201 | 317 => 200 | 318 => 202 | n => n, fun | 53 => 88 | 3 => 3 | 212 => 184 | 0 => 0 | 4 => 4 | 46 => 114 | 5 => 5 | 9 => 9 | n => n, fun | 17 => 3 | n => n⟩
theorem lays284 : Go.Proofs.LaysM.n284 Tryz.prog lays284_ren := {
  mixed := by kernel_rfl
  f129 := Tryz.func201.trans (congrArg some (by kernel_rfl))
  f284 := Tryz.func190.trans (congrArg some (by kernel_rfl))
  f317 := Tryz.func200.trans (congrArg some (by kernel_rfl))
  f318 := Tryz.func202.trans (congrArg some (by kernel_rfl))
  t0 := Tryz.underlying0
  a0 := Tryz.isAgg0
  z0 := Tryz.sizeOf0
  v0 := Tryz.zeroValue0
  t3 := Tryz.underlying3
  a3 := Tryz.isAgg3
  z3 := Tryz.sizeOf3
  v3 := Tryz.zeroValue3
  t4 := Tryz.underlying4
  a4 := Tryz.isAgg4
  z4 := Tryz.sizeOf4
  v4 := Tryz.zeroValue4
  t5 := Tryz.underlying5
  a5 := Tryz.isAgg5
  z5 := Tryz.sizeOf5
  v5 := Tryz.zeroValue5
  t9 := Tryz.underlying9
  a9 := Tryz.isAgg9
  z9 := Tryz.sizeOf9
  v9 := Tryz.zeroValue9
  t46 := Tryz.underlying114
  a46 := Tryz.isAgg114
  z46 := Tryz.sizeOf114
  v46 := Tryz.zeroValue114
  t53 := Tryz.underlying88
  a53 := Tryz.isAgg88
  z53 := Tryz.sizeOf88
  v53 := Tryz.zeroValue88
  t212 := Tryz.underlying184
  a212 := Tryz.isAgg184
  z212 := Tryz.sizeOf184
  v212 := Tryz.zeroValue184
  g17 := by kernel_rfl
  i0 := by kernel_rfl
  i3 := by kernel_rfl
  i4 := by kernel_rfl
  i5 := by kernel_rfl
  i9 := by kernel_rfl
  i46 := by kernel_rfl
  i53 := by kernel_rfl
  i212 := by kernel_rfl
  m17 := by kernel_rfl }
def lays285_ren : Go.Shelf.Ren := ⟨fun | 285 => 191 | n => n, fun | 37 => 91 | 53 => 88 | 3 => 3 | 4 => 4 | 51 => 111 | 9 => 9 | 5 => 5 | 0 => 0 | n => n, fun | n => n⟩
theorem lays285 : Go.Proofs.Lays.n285 Tryz.prog lays285_ren := {
  mixed := by kernel_rfl
  f285 := Tryz.func191.trans (congrArg some (by kernel_rfl))
  t0 := Tryz.underlying0
  a0 := Tryz.isAgg0
  z0 := Tryz.sizeOf0
  v0 := Tryz.zeroValue0
  t3 := Tryz.underlying3
  a3 := Tryz.isAgg3
  z3 := Tryz.sizeOf3
  v3 := Tryz.zeroValue3
  t4 := Tryz.underlying4
  a4 := Tryz.isAgg4
  z4 := Tryz.sizeOf4
  v4 := Tryz.zeroValue4
  t5 := Tryz.underlying5
  a5 := Tryz.isAgg5
  z5 := Tryz.sizeOf5
  v5 := Tryz.zeroValue5
  t9 := Tryz.underlying9
  a9 := Tryz.isAgg9
  z9 := Tryz.sizeOf9
  v9 := Tryz.zeroValue9
  t37 := Tryz.underlying91
  a37 := Tryz.isAgg91
  z37 := Tryz.sizeOf91
  v37 := Tryz.zeroValue91
  t51 := Tryz.underlying111
  a51 := Tryz.isAgg111
  z51 := Tryz.sizeOf111
  v51 := Tryz.zeroValue111
  t53 := Tryz.underlying88
  a53 := Tryz.isAgg88
  z53 := Tryz.sizeOf88
  v53 := Tryz.zeroValue88 }
def lays156_ren : Go.Shelf.Ren := ⟨fun | 156 => 161 | 165 => 174 | 166 => 175 | 169 => 177 | 240 => 193 | 241 => 194 | 276 => 205 | 277 => 206 | n => n, fun | 31 => 22 | 9 => 9 | 3 => 3 | 4 => 4 | 0 => 0 | 20 => 20 | 72 => 161 | 76 => 163 | 70 => 159 | 37 => 91 | 75 => 122 | 127 => 177 | 164 => 188 | 5 => 5 | 80 => 116 | n => n, fun | n => n⟩
theorem lays156 : Go.Proofs.Lays.n156 Tryz.prog lays156_ren := {
  mixed := by kernel_rfl
  f156 := Tryz.func161.trans (congrArg some (by kernel_rfl))
  f165 := Tryz.func174.trans (congrArg some (by kernel_rfl))
  f166 := Tryz.func175.trans (congrArg some (by kernel_rfl))
  f169 := Tryz.func177.trans (congrArg some (by kernel_rfl))
  f240 := Tryz.func193.trans (congrArg some (by kernel_rfl))
  f241 := Tryz.func194.trans (congrArg some (by kernel_rfl))
  f276 := Tryz.func205.trans (congrArg some (by kernel_rfl))
  f277 := Tryz.func206.trans (congrArg some (by kernel_rfl))
  t0 := Tryz.underlying0
  a0 := Tryz.isAgg0
  z0 := Tryz.sizeOf0
  v0 := Tryz.zeroValue0
  t3 := Tryz.underlying3
  a3 := Tryz.isAgg3
  z3 := Tryz.sizeOf3
  v3 := Tryz.zeroValue3
  t4 := Tryz.underlying4
  a4 := Tryz.isAgg4
  z4 := Tryz.sizeOf4
  v4 := Tryz.zeroValue4
  t9 := Tryz.underlying9
  a9 := Tryz.isAgg9
  z9 := Tryz.sizeOf9
  v9 := Tryz.zeroValue9
  t20 := Tryz.underlying20
  a20 := Tryz.isAgg20
  z20 := Tryz.sizeOf20
  v20 := Tryz.zeroValue20
  t31 := Tryz.underlying22
  a31 := Tryz.isAgg22
  z31 := Tryz.sizeOf22
  v31 := Tryz.zeroValue22
  t37 := Tryz.underlying91
  a37 := Tryz.isAgg91
  z37 := Tryz.sizeOf91
  v37 := Tryz.zeroValue91
  t70 := Tryz.underlying159
  a70 := Tryz.isAgg159
  z70 := Tryz.sizeOf159
  v70 := Tryz.zeroValue159
  t72 := Tryz.underlying161
  a72 := Tryz.isAgg161
  z72 := Tryz.sizeOf161
  v72 := Tryz.zeroValue161
  t75 := Tryz.underlying122
  a75 := Tryz.isAgg122
  z75 := Tryz.sizeOf122
  v75 := Tryz.zeroValue122
  t76 := Tryz.underlying163
  a76 := Tryz.isAgg163
  z76 := Tryz.sizeOf163
  v76 := Tryz.zeroValue163
  t127 := Tryz.underlying177
  a127 := Tryz.isAgg177
  z127 := Tryz.sizeOf177
  v127 := Tryz.zeroValue177
  t164 := Tryz.underlying188
  a164 := Tryz.isAgg188
  z164 := Tryz.sizeOf188
  v164 := Tryz.zeroValue188 }
def lays105_ren : Go.Shelf.Ren := ⟨fun | 105 => 159 | 212 => 134 | 99 => 173 | 165 => 174 | 166 => 175 | 170 => 176 | 169 => 177 | 263 => 162 | 264 => 163 | 206 => 166 | 240 => 193 | 241 => 194 | 276 => 205 | 277 => 206 | n => n, fun | 9 => 9 | 3 => 3 | 4 => 4 | 20 => 20 | 0 => 0 | 46 => 114 | 109 => 117 | 5 => 5 | 72 => 161 | 76 => 163 | 51 => 111 | 146 => 149 | 53 => 88 | 148 => 151 | 70 => 159 | 37 => 91 | 75 => 122 | 127 => 177 | 164 => 188 | 80 => 116 | n => n, fun | n => n⟩
theorem lays105 : Go.Proofs.Lays.n105 Tryz.prog lays105_ren := {
  mixed := by kernel_rfl
  f99 := Tryz.func173.trans (congrArg some (by kernel_rfl))
  f105 := Tryz.func159.trans (congrArg some (by kernel_rfl))
  f165 := Tryz.func174.trans (congrArg some (by kernel_rfl))
  f166 := Tryz.func175.trans (congrArg some (by kernel_rfl))
  f169 := Tryz.func177.trans (congrArg some (by kernel_rfl))
  f170 := Tryz.func176.trans (congrArg some (by kernel_rfl))
  f206 := Tryz.func166.trans (congrArg some (by kernel_rfl))
  f212 := Tryz.func134.trans (congrArg some (by kernel_rfl))
  f240 := Tryz.func193.trans (congrArg some (by kernel_rfl))
  f241 := Tryz.func194.trans (congrArg some (by kernel_rfl))
  f263 := Tryz.func162.trans (congrArg some (by kernel_rfl))
  f264 := Tryz.func163.trans (congrArg some (by kernel_rfl))
  f276 := Tryz.func205.trans (congrArg some (by kernel_rfl))
  f277 := Tryz.func206.trans (congrArg some (by kernel_rfl))
  t0 := Tryz.underlying0
  a0 := Tryz.isAgg0
  z0 := Tryz.sizeOf0
  v0 := Tryz.zeroValue0
  t3 := Tryz.underlying3
  a3 := Tryz.isAgg3
  z3 := Tryz.sizeOf3
  v3 := Tryz.zeroValue3
  t4 := Tryz.underlying4
  a4 := Tryz.isAgg4
  z4 := Tryz.sizeOf4
  v4 := Tryz.zeroValue4
  t5 := Tryz.underlying5
  a5 := Tryz.isAgg5
  z5 := Tryz.sizeOf5
  v5 := Tryz.zeroValue5
  t9 := Tryz.underlying9
  a9 := Tryz.isAgg9
  z9 := Tryz.sizeOf9
  v9 := Tryz.zeroValue9
  t20 := Tryz.underlying20
  a20 := Tryz.isAgg20
  z20 := Tryz.sizeOf20
  v20 := Tryz.zeroValue20
  t37 := Tryz.underlying91
  a37 := Tryz.isAgg91
  z37 := Tryz.sizeOf91
  v37 := Tryz.zeroValue91
  t46 := Tryz.underlying114
  a46 := Tryz.isAgg114
  z46 := Tryz.sizeOf114
  v46 := Tryz.zeroValue114
  t51 := Tryz.underlying111
  a51 := Tryz.isAgg111
  z51 := Tryz.sizeOf111
  v51 := Tryz.zeroValue111
  t53 := Tryz.underlying88
  a53 := Tryz.isAgg88
  z53 := Tryz.sizeOf88
  v53 := Tryz.zeroValue88
  t70 := Tryz.underlying159
  a70 := Tryz.isAgg159
  z70 := Tryz.sizeOf159
  v70 := Tryz.zeroValue159
  t72 := Tryz.underlying161
  a72 := Tryz.isAgg161
  z72 := Tryz.sizeOf161
  v72 := Tryz.zeroValue161
  t75 := Tryz.underlying122
  a75 := Tryz.isAgg122
  z75 := Tryz.sizeOf122
  v75 := Tryz.zeroValue122
  t76 := Tryz.underlying163
  a76 := Tryz.isAgg163
  z76 := Tryz.sizeOf163
  v76 := Tryz.zeroValue163
  t109 := Tryz.underlying117
  a109 := Tryz.isAgg117
  z109 := Tryz.sizeOf117
  v109 := Tryz.zeroValue117
  t127 := Tryz.underlying177
  a127 := Tryz.isAgg177
  z127 := Tryz.sizeOf177
  v127 := Tryz.zeroValue177
  t146 := Tryz.underlying149
  a146 := Tryz.isAgg149
  z146 := Tryz.sizeOf149
  v146 := Tryz.zeroValue149
  t148 := Tryz.underlying151
  a148 := Tryz.isAgg151
  z148 := Tryz.sizeOf151
  v148 := Tryz.zeroValue151
  t164 := Tryz.underlying188
  a164 := Tryz.isAgg188
  z164 := Tryz.sizeOf188
  v164 := Tryz.zeroValue188 }
theorem extra156 : Go.Proofs.Builder.Extra Tryz.prog lays156_ren := { sizeBuilder := by kernel_rfl, liesBuilder := by kernel_rfl, t5 := Tryz.underlying5, a5 := Tryz.isAgg5, z5 := Tryz.sizeOf5, v5 := Tryz.zeroValue5, infoByte := by kernel_rfl, cellsByte := by kernel_rfl, sizeByte := by kernel_rfl, neB5 := by decide }
theorem extra105 : Go.Proofs.Builder.Extra Tryz.prog lays105_ren := { sizeBuilder := by kernel_rfl, liesBuilder := by kernel_rfl, t5 := Tryz.underlying5, a5 := Tryz.isAgg5, z5 := Tryz.sizeOf5, v5 := Tryz.zeroValue5, infoByte := by kernel_rfl, cellsByte := by kernel_rfl, sizeByte := by kernel_rfl, neB5 := by decide }
end
section
open Go Go.RowKit Go.Sort
theorem callOk_of_belowT {P : Program} {f : FuncId} {args : List AV} {vals : List Value} {r : AV} {v : Value} {g : Nat} (hg : P.globalNamed tabName = some g) (ha : ∀ E vs L, ownRL P E args vs L → vs = vals ∧ L = []) (hr : ∀ E, ownR P E r v [])
    (h : ∀ w : World, Lib.TabIs P w tabName .u64 tabNums → Calls P f vals.toArray w fun e w' => e = .returned v ∧ Below w.heap.size w w') : CallOk P f args r [] := by
  intro w I vs L hI hown hnd
  obtain ⟨rfl, rfl⟩ := ha _ _ _ hown
  refine (h w (hI.tab g hg).2).mono ?_
  rintro e w' ⟨rfl, hb⟩
  refine ⟨v, I, [], rfl, ⟨hb.os, hb.tape, hb.output, hb.size, fun b hb' _ => hb.block b hb', by simp⟩, fun b hb' => hb', fun b hb' => .inl hb', fun b hb' => Nat.lt_of_lt_of_le (hI.lt b hb') hb.size, hr _, by simp, by simp, .inl rfl⟩
theorem tab_kit {P : Program} {w : World} (h : Lib.TabIs P w tabName .u64 tabNums) : Lib.TabIs P w "internal/strconv.uint64pow10" .u64 Lib.pow10Tab := h
set_option maxHeartbeats 2000000 in
set_option maxRecDepth 100000 in
theorem w_FormatUint0 (u : Nat) (hu : u < 18446744073709551616) (w : World) (htab : Lib.TabIs Tryz.prog w "internal/strconv.uint64pow10" .u64 Lib.pow10Tab) :
    Calls Tryz.prog 172 #[.int .u64 u, .int .i64 10] w fun e w' => e = .returned (.string ⟨(Lib.decDigits u).toArray⟩) ∧ Below w.heap.size w w' := by
  by_cases hs : u < 100
  · go_enter Tryz.func172, Tryz.ntmps172
    go_wp2_with (go_at_call 189; refine (Any.internal_strconv_small lays283 u hs _).mono ?_; rintro e w' ⟨rfl, rfl⟩)
    go_ret
    exact ⟨rfl, Below.refl _ _⟩
  · have hu1 : 1 ≤ u := by omega
    have hnd20 : Lib.nDigits u ≤ 20 := by have := Lib.numDigits_eq u hu1 hu; split at this <;> omega
    have hb3 : Lib.nDigits u ≤ 24 := by omega
    have hal : Program.arrayLen Tryz.prog 172 = 24 := by kernel_rfl
    have hsl1 : ∀ W, (Instr.sliceAt 172 (.pointer (some ⟨w.heap.size, 0, none⟩)) none (some (.int .i64 (Lib.nDigits u : Int))) none).run Tryz.prog W = .ok (.slice (some ⟨w.heap.size, 0, none⟩) (Lib.nDigits u) 24) W := fun W => by
      rw [run_sliceAt_array_h W 172 ⟨w.heap.size, 0, none⟩ (by kernel_rfl) .i64 (Lib.nDigits u : Int) (by omega) (by rw [hal]; omega)]
      have he : Program.elem Tryz.prog 172 = 5 := by kernel_rfl
      simp [hal, he, Tryz.sizeOf5, slicedAt, Lib.add_plain]
    have hH0 : Sort.Holds (fun (b : UInt8) => Value.int .u8 (b.toNat : Int)) (w.alloc (.cells Lib.zeros24 172)) w.heap.size 0 (Array.replicate (Lib.nDigits u) (0 : UInt8)) := fun j hj => by
      have hj' : j < Lib.nDigits u := by simpa using hj
      refine ⟨?_, World.frozen?_alloc_new _ _ _ _⟩
      rw [World.cell?_alloc_new, Lib.zeros24_at _ (by omega), getElem!_pos _ j hj]
      simp
    have hfmt := Any.internal_strconv_formatBase10 lays285 w.heap.size 0 24 u (Array.replicate (Lib.nDigits u) 0) (w.alloc (.cells Lib.zeros24 172)) hH0 (by rw [Array.size_replicate]; exact Lib.lt_pow_nDigits u) hu (by rw [Array.size_replicate]; omega)
    rw [Array.size_replicate] at hfmt
    have HH0 := Lib.hid hH0
    clear hH0 hal
    go_enter Tryz.func172, Tryz.ntmps172
    go_wp2_with (first
      | (go_at_call 190; refine (Any.internal_strconv_numDigits lays284 u hu1 hu _ (Lib.tabIs_alloc htab _)).mono ?_; rintro e w' ⟨rfl, rfl⟩))
    go_at_call 191
    refine hfmt.mono ?_
    rintro e w' ⟨rfl, k, v', dk, rfl, hF⟩
    have hcv : (convert 91 9 (.slice (some ⟨w.heap.size, 0, none⟩) (Lib.nDigits u) 24)).run Tryz.prog ((putRow (fun (b : UInt8) => Value.int .u8 (b.toNat : Int)) (w.alloc (.cells Lib.zeros24 172)) w.heap.size 0 dk).drewN k) = .ok (.string ⟨(Lib.decDigits u).toArray⟩) ((putRow (fun (b : UInt8) => Value.int .u8 (b.toNat : Int)) (w.alloc (.cells Lib.zeros24 172)) w.heap.size 0 dk).drewN k) := by
      have h := run_convert_bytes_back (P := Tryz.prog) ((putRow (fun (b : UInt8) => Value.int .u8 (b.toNat : Int)) (w.alloc (.cells Lib.zeros24 172)) w.heap.size 0 dk).drewN k) 91 9 5 ⟨w.heap.size, 0, none⟩ 24 (Lib.decDigits u) Tryz.underlying91 Tryz.underlying5 Tryz.underlying9 (fun j hj => by
        rw [Lib.row_is_numeral hF j hj, Lib.add_plain, World.cell?_drewN]
        exact cell?_putRow (fun (b : UInt8) => Value.int .u8 (b.toNat : Int)) _ w.heap.size 0 _ dk HH0.out (by rw [hF.size, Array.size_replicate]) j (by rw [hF.size]; rw [Lib.decDigits_length] at hj; exact hj))
      rw [Lib.decDigits_length] at h
      exact h
    go_wp2
    go_ret
    refine ⟨rfl, ?_⟩
    rw [alloc_eq_grow]
    obtain ⟨os', _, e⟩ := putRow_grow_new (fun (b : UInt8) => Value.int .u8 (b.toNat : Int)) w #[.cells Lib.zeros24 172] w.heap.size 0 dk (Nat.le_refl _)
    rw [e]
    exact ⟨rfl, rfl, rfl, by simp [grow, World.drewN], fun b hb => by simp [grow, World.drewN, Array.getElem?_append_left hb]⟩
set_option maxRecDepth 100000 in
theorem w_FormatUint (u : Nat) (hu : u < 18446744073709551616) (w : World) (htab : Lib.TabIs Tryz.prog w "internal/strconv.uint64pow10" .u64 Lib.pow10Tab) :
    Calls Tryz.prog 158 #[.int .u64 u, .int .i64 10] w fun e w' => e = .returned (.string ⟨(Lib.decDigits u).toArray⟩) ∧ Below w.heap.size w w' := by
  go_enter Tryz.func158, Tryz.ntmps158
  go_wp2_with (go_at_call 172; refine (w_FormatUint0 u hu _ htab).mono ?_; rintro e w' ⟨rfl, hb⟩)
  go_ret
  exact ⟨rfl, hb⟩
theorem g_FormatUint {u : Nat} (hu : u < 18446744073709551616) : CW Tryz.prog 158 [.int .u64 u, .int .i64 10] (.str (Lib.decDigits u)) :=
  cw (by kernel_rfl) (by simp [AV.pure, AV.pureL, natA_pure, natI_pure, natS_pure]) (by simp [AV.pure, AV.pureL, natA_pure, natI_pure, natS_pure]) (callOk_of_belowT (g := 3) (vals := [.int .u64 u, .int .i64 10]) (v := .string ⟨(Lib.decDigits u).toArray⟩) (by kernel_rfl) (fun E => ownL_cons (fun _ _ => own_int) (ownL_cons (fun _ _ => own_int) ownL_nil)) (fun E => by simp [ownR, rep]) fun w ht => w_FormatUint u hu w (tab_kit ht))
theorem repeat_48 : ∀ c, Lib.repeatL [48] c = List.replicate c 48
  | 0 => rfl
  | c + 1 => by rw [Lib.repeatL, repeat_48 c]; rfl
attribute [go_sem] g_FormatUint
theorem g_Repeat {c : Nat} (hc : c ≤ 100) : CW Tryz.prog 159 [.str [48], .int .i64 c] (.str (List.replicate c 48)) :=
  cw (by kernel_rfl) (by simp [AV.pure, AV.pureL, natA_pure, natI_pure, natS_pure]) (by simp [AV.pure, AV.pureL, natA_pure, natI_pure, natS_pure]) (callOk_of_below (vals := [.string ⟨[48].toArray⟩, .int .i64 c]) (v := .string ⟨(List.replicate c 48).toArray⟩) (fun E => ownL_cons (fun _ _ => own_str) (ownL_cons (fun _ _ => own_int) ownL_nil)) (fun E => by simp [ownR, rep]) fun w => by
    refine (Any.strings_Repeat lays105 extra105 ⟨[48].toArray⟩ c w (by omega) (by simp [ByteArray.size]; omega)).mono ?_
    rintro e w' ⟨rfl, hb⟩
    refine ⟨?_, hb⟩
    simp [repeat_48])
theorem join_flat : ∀ xs : List (List UInt8), Lib.join xs [] = xs.flatten
  | [] => rfl
  | x :: r => by rw [Lib.join_cons]; simp [Lib.joinTail]
theorem repL_strs {P : Program} {E : Env} : ∀ {xs : List (List UInt8)} {vs : List Value}, repL P E (strA xs) vs → vs = xs.map fun s => .string ⟨s.toArray⟩
  | [], vs, h => by simpa [strA, repL] using h
  | x :: xs, vs, h => by
    simp only [strA, List.map_cons, repL] at h
    obtain ⟨v, us, rfl, h1, h2⟩ := h
    rw [rep_str h1, repL_strs (xs := xs) h2]; rfl
theorem g_Join {xs : List (List UInt8)} {ex : Bool} (h0 : xs ≠ []) (hl : xs.length ≤ 140737488355328) (hs : xs.flatten.length ≤ 140737488355328) : CallOk Tryz.prog 161 [.sl 9 (strA xs) [] ex, .str []] (.str xs.flatten) [] := by
  intro w I vs L hI hown hnd
  simp only [ownRL] at hown
  obtain ⟨v, us, L1, L2, rfl, rfl, h1, u, us', L3, L4, rfl, rfl, h3, rfl, rfl⟩ := hown
  obtain ⟨rfl, rfl⟩ := own_str h3
  simp only [ownR, rep] at h1
  obtain ⟨rfl, _, a, cap, rfl, h5, _, _, ws, us, h6, _, h7⟩ := h1
  have hlen : (strA xs).length = xs.length := strA_length xs
  have hpos : 0 < xs.length := List.length_pos_iff.2 h0
  obtain ⟨b, off, c, fz, rfl, hIb, hb, hca⟩ := h7 (by rw [hlen]; simp; omega)
  have hw := repL_strs h6
  subst hw
  have hcell : ∀ (j : Nat) (x : ByteArray), (xs.map fun s => (⟨s.toArray⟩ : ByteArray))[j]? = some x → w.cell? ⟨b, off + j, none⟩ = some (.string x) := by
    intro j x hj
    simp only [List.getElem?_map, Option.map_eq_some_iff] at hj
    obtain ⟨s, hs', rfl⟩ := hj
    have hb' : w.heap[b]? = some (.cells c fz.1 fz.2) := hb
    have hjl : j < xs.length := by
      rcases Nat.lt_or_ge j xs.length with h | h
      · exact h
      · rw [List.getElem?_eq_none h] at hs'; cases hs'
    rw [cell_at hb']
    have hj2 := (hca j (.string ⟨s.toArray⟩) (by rw [List.getElem?_append_left (by simpa using hjl)]; simp [hs'])).2 0 (.string ⟨s.toArray⟩) (by simp [Value.cells])
    have hz : szT Tryz.prog 9 = 1 := by kernel_rfl
    rw [hz] at hj2
    simpa using hj2
  have := Any.strings_Join lays156 extra156 b off cap (xs.map fun s => (⟨s.toArray⟩ : ByteArray)) ⟨#[]⟩ w hcell (hI.lt b hIb) (by simpa using hl) (by rw [strA_length] at h5; simpa using h5) (by
    simp only [List.map_map, Function.comp_def, List.map_id']
    rw [join_flat]; exact hs)
  simp only [List.map_map, Function.comp_def, List.map_id', join_flat, List.length_map] at this
  rw [hlen]
  refine this.mono ?_
  rintro e w' ⟨rfl, hb⟩
  exact ⟨_, I, [], rfl, ⟨hb.os, hb.tape, hb.output, hb.size, fun b hb' _ => hb.block b hb', by simp⟩, fun b hb' => hb', fun b hb' => .inl hb', fun b hb' => Nat.lt_of_lt_of_le (hI.lt b hb') hb.size, by simp [ownR, rep], by simp, by simp, .inl rfl⟩
attribute [go_sem] g_Repeat
end
theorem rev_at {xs : List (List UInt8)} {k : Nat} (h : k < xs.length) : xs.reverse[k]? = xs[xs.length - 1 - k]? := List.getElem?_reverse h
theorem rev_done {xs zs : List (List UInt8)} {i : Nat} (hl : zs.length = xs.length) (hi : xs.length ≤ 2 * i + 1) (hz : ∀ k, zs[k]? = if k < i ∨ xs.length ≤ k + i then xs.reverse[k]? else xs[k]?) : zs = xs.reverse := by
  refine List.ext_getElem? fun k => ?_
  rw [hz k]
  split
  · rfl
  · rename_i h
    rw [rev_at (by omega)]
    congr 1; omega
theorem rev_step {xs zs : List (List UInt8)} {i : Nat} {a b : List UInt8} (hl : zs.length = xs.length) (hi : 2 * i + 1 < xs.length) (ha : zs[i]? = some a) (hb : zs[xs.length - 1 - i]? = some b)
    (hz : ∀ k, zs[k]? = if k < i ∨ xs.length ≤ k + i then xs.reverse[k]? else xs[k]?) (k : Nat) :
    ((zs.set i b).set (xs.length - 1 - i) a)[k]? = if k < i + 1 ∨ xs.length ≤ k + (i + 1) then xs.reverse[k]? else xs[k]? := by
  have h1 := hz i
  have h2 := hz (xs.length - 1 - i)
  rw [if_neg (by omega), ha] at h1
  rw [if_neg (by omega), hb] at h2
  rw [List.getElem?_set, List.getElem?_set]
  by_cases e1 : xs.length - 1 - i = k
  · subst e1
    rw [if_pos rfl, if_pos (by simp; omega), if_pos (by omega), rev_at (by omega), show xs.length - 1 - (xs.length - 1 - i) = i by omega]
    exact h1
  · rw [if_neg e1]
    by_cases e2 : i = k
    · subst e2
      rw [if_pos rfl, if_pos (by omega), if_pos (by omega), rev_at (by omega)]
      exact h2
    · rw [if_neg e2, hz k]
      by_cases hc : k < i ∨ xs.length ≤ k + i
      · rw [if_pos hc, if_pos (by omega)]
      · rw [if_neg hc, if_neg (by omega)]
theorem i_Reverse {fr : Nat → AV} {h : Nat → Blk} {nx id n : Nat} {xs : List (List UInt8)} {ex gr : Bool} (hb : h id = ⟨9, strA xs, ex, gr, true⟩) (hn : xs.length = n) (h0 : 0 < n) (hbig : n ≤ 1099511627776) :
    InOk Tryz.prog ⟨fr, h, nx⟩ 160 [.ref id n 0 n] (.tup []) ⟨fr, upd h id ⟨9, strA xs.reverse, ex, gr, true⟩, nx⟩ := by
  refine inOk_of_wpc (W := fun _ => false) hm' Tryz.func160 rfl (by kernel_rfl) (Nat.le_of_ble_eq_true rfl) (go_start ?_)
  generalize hQ : PostIn Tryz.prog Tryz.f160 _ _ _ = Q
  have hal : (strA xs).length = n := by rw [strA_length, hn]
  simp (disch := omega) only [go_sem, ↓k_cond, ↓x_idx, ↓k_block, Nat.reduceEqDiff, Nat.reduceBEq, ↓reduceIte, reduceCtorEq, hb, hal]
  refine k_loop (fun (p : Nat × List (List UInt8)) st => st.fr 0 = .ref id n 0 n ∧ st.fr 2 = .int .i64 p.1 ∧ st.fr 3 = .int .i64 ((n : Int) - 1 - p.1) ∧ st.h = upd h id ⟨9, strA p.2, ex, gr, true⟩ ∧ st.nx = nx ∧
      p.2.length = n ∧ 2 * p.1 ≤ n + 1 ∧ ∀ k, p.2[k]? = if k < p.1 ∨ n ≤ k + p.1 then xs.reverse[k]? else xs[k]?) (fun p => n - p.1) (0, xs)
    ⟨(by simp [upd_app] <;> omega), (by simp [upd_app] <;> omega), (by simp [upd_app] <;> omega), by funext j; simp only [upd_app]; split <;> simp_all, rfl, hn, by omega, fun k => by
      split
      · rename_i hk
        rw [List.getElem?_eq_none (by first | omega | (simp; omega)), List.getElem?_eq_none (by first | omega | (simp; omega))]
      · rfl⟩ ?_
  rintro ⟨i, zs⟩ ⟨fr1, h1, nx1⟩ ⟨g0, g2, g3, eh, enx, hzl, hi, hz⟩ J hJ
  simp only at g0 g2 g3 eh enx hzl hi hz
  subst eh enx
  have hal2 : (strA zs).length = n := by rw [strA_length, hzl]
  by_cases hin : 2 * i + 1 < n
  · obtain ⟨a, ha⟩ := get_some (xs := zs) (i := i) (by omega)
    obtain ⟨b, hbb⟩ := get_some (xs := zs) (i := n - 1 - i) (by omega)
    have e1 : ((n : Int) - 1 - (i : Int)).toNat = n - 1 - i := by omega
    have hupd : ∀ z w : Blk, upd (upd h id z) id w = upd h id w := by intro z w; funext j; simp only [upd_app]; split <;> rfl
    have hlt : ∀ z, (strA (zs.set i z)).length = n := fun z => by rw [strA_length, List.length_set, hzl]
    have hzi := rev_step (xs := xs) (zs := zs) (i := i) (a := a) (b := b) (by omega) (by omega) ha (by rw [hn]; exact hbb) (by rw [hn]; exact hz)
    rw [hn] at hzi
    have hne : i ≠ n - 1 - i := by omega
    have hset : ∀ z, (zs.set i z)[n - 1 - i]? = zs[n - 1 - i]? := fun z => by rw [List.getElem?_set, if_neg hne]
    simp (disch := omega) only [go_sem, ↓k_cond, ↓x_idx, ↓k_block, Nat.reduceEqDiff, Nat.reduceBEq, ↓reduceIte, reduceCtorEq, g0, g2, g3, hal2, strA_at, ha, hbb, e1, hupd, hlt, hset, strA_put]
    exact hJ (i + 1, (zs.set i b).set (n - 1 - i) a) _ ⟨(by simp [upd_app, g0] <;> omega), (by simp [upd_app] <;> omega), by simp [upd_app]; omega, rfl, rfl, by simp [hzl], by omega, hzi⟩ (by simp only; omega)
  · have hfin := rev_done (xs := xs) (zs := zs) (i := i) (by omega) (by omega) (by rw [hn]; exact hz)
    simp (disch := omega) only [go_sem, ↓k_cond, ↓x_idx, ↓k_block, Nat.reduceEqDiff, Nat.reduceBEq, ↓reduceIte, reduceCtorEq, g0, g2, g3]
    rw [← hQ]
    exact postIn_none (.inr rfl) rfl (by rw [hfin]) rfl
theorem snap_all {st : St} {id n : Nat} {xs : List (List UInt8)} {ex gr : Bool} (h : st.h id = ⟨9, strA xs, ex, gr, true⟩) (hn : xs.length = n) : snapL (snapA st 8) [.ref id n 0 n, .str []] = some ([.sl 9 (strA xs) [] false, .str []], [id]) := by
  have h1 := snap_strs (st := st) (id := id) (n := n) (len := n) (xs := xs) h hn (Nat.le_refl _)
  rw [List.take_of_length_le (by omega)] at h1
  have h2 : snapA st 8 (.str []) = some (.str [], []) := snapA_pure rfl
  simp [snapL, h1, h2]
theorem w_divSmall {a d : Nat} (ha : (enc B32 a).length ≤ 1099511627776) (hd : 0 < d) (hd2 : d < 4294967296) : CW Tryz.prog 154 [natI a, .int .u32 d] (.tup [natI (a / d), .int .u32 ((a % d : Nat) : Int)]) :=
  cw (by kernel_rfl) (by simp [AV.pure, AV.pureL, natA_pure, natI_pure, natS_pure]) (by simp [AV.pure, AV.pureL, natA_pure, natI_pure, natS_pure]) (i_divSmall a d ha hd hd2)
theorem chunk_bound {n k : Nat} (h : (enc B32 n).length ≤ k) : (chunkD n).length ≤ 2 * k := by
  have h1 : n < B32 ^ k := Nat.lt_of_lt_of_le (enc_len_pow B32_gt) (Nat.pow_le_pow_right (by decide) h)
  have h2 : B32 ≤ 1000000000 ^ 2 := by decide
  have h3 := Nat.pow_le_pow_left h2 k
  rw [← Nat.pow_mul] at h3
  exact chunkD_len (Nat.lt_of_lt_of_le h1 h3)
attribute [go_sem] w_divSmall
set_option maxHeartbeats 1000000 in
theorem w_natText {n : Nat} (hn : (enc B32 n).length ≤ 274877906944) : CW Tryz.prog 133 [natI n] (.str (Lib.decDigits n)) := by
  refine cw (by kernel_rfl) (by simp [AV.pure, AV.pureL, natA_pure, natI_pure, natS_pure]) (by simp [AV.pure, AV.pureL, natA_pure, natI_pure, natS_pure]) ?_
  by_cases hz : n = 0
  · subst hz
    rw [decD_zero]
    (refine callOk_of_wpc (W := fun _ => false) false hm' Tryz.func133 rfl (by kernel_rfl) (Nat.le_of_ble_eq_true rfl) (go_start ?_); generalize hQ : Post Tryz.prog Tryz.f133 _ _ _ _ _ = Q; simp only [stIn, matL, matA, st00, natI])
    simp (disch := omega) only [go_sem, ↓k_cond, ↓x_idx, ↓k_block, Nat.reduceEqDiff, Nat.reduceBEq, ↓reduceIte, reduceCtorEq, enc_zero, natA_nil, List.length_nil]
    rw [← hQ]
    exact post_one (.inl rfl) rfl (by simp [upd_app] <;> omega) rfl
  have hpos := enc_len_pos B32_gt hz
  have hcl := chunk_bound hn
  have hct := chunkD_text n hz
  have hdl : (Lib.decDigits n).length ≤ 140737488355328 := by
    rw [← hct]
    have : ∀ cs : List (List UInt8), (∀ c ∈ cs, c.length ≤ 9) → cs.flatten.length ≤ 9 * cs.length := by
      intro cs
      induction cs with
      | nil => intro _; simp
      | cons c cs ih =>
        intro h
        have h1 := h c (by simp)
        have h2 := ih (fun d hd => h d (by simp [hd]))
        simp only [List.flatten_cons, List.length_append, List.length_cons]; omega
    have h3 := this (chunkD n).reverse (fun c hc => (chunkD_nine c (by simpa using hc)).1)
    simp only [List.length_reverse] at h3
    omega
  have hcn : chunkD n ≠ [] := by rw [chunkD_pos hz]; simp
  (refine callOk_of_wpc (W := fun g => g == 160) false hm' Tryz.func133 rfl (by kernel_rfl) (Nat.le_of_ble_eq_true rfl) (go_start ?_); generalize hQ : Post Tryz.prog Tryz.f133 _ _ _ _ _ = Q; simp only [stIn, matL, matA, st00, natI])
  simp (disch := omega) only [go_sem, ↓k_cond, ↓x_idx, ↓k_block, Nat.reduceEqDiff, Nat.reduceBEq, ↓reduceIte, reduceCtorEq]
  refine k_loop (fun (⟨m, ps⟩ : Nat × List (List UInt8)) st => st.fr 0 = natI m ∧ st.fr 3 = .ref 0 ps.length 0 ps.length ∧ (∃ ex, st.h 0 = ⟨9, strA ps, ex, true, true⟩) ∧ 0 < st.nx ∧ (ps ++ chunkD m = chunkD n) ∧ (m ≤ n)) (fun (⟨m, ps⟩ : Nat × List (List UInt8)) => m) (n, [])
    ⟨(by simp [upd_app, natI, strA] <;> omega), (by simp [upd_app, natI, strA] <;> omega), ⟨true, (by simp [upd_app, natI, strA] <;> omega)⟩, (by simp <;> omega), by simp, by omega⟩ ?_
  rintro ⟨m, ps⟩ ⟨fr, h, nx⟩ ⟨g0, g3, ⟨ex0, hm0⟩, hnx, hps, hmn⟩ J hJ
  simp only at g0 g3 hm0 hnx
  have hlm := enc_len_mono B32_gt hmn
  have hpl : ps.length ≤ (chunkD n).length := by rw [← hps]; simp
  by_cases hmz : m = 0
  · subst hmz
    rw [chunkD_zero, List.append_nil] at hps
    have hne : ps ≠ [] := by rw [hps]; exact hcn
    have hp0 := List.length_pos_iff.2 hne
    rw [natI0] at g0
    simp (disch := omega) only [go_sem, ↓k_cond, ↓x_idx, ↓k_block, Nat.reduceEqDiff, Nat.reduceBEq, ↓reduceIte, reduceCtorEq, g0, g3]
    refine callW_I (i_Reverse (ex := ex0) (gr := true) (id := 0) (xs := ps) hm0 rfl hp0 (by omega)) (by kernel_rfl) (.inl rfl) ?_
    simp (disch := omega) only [go_sem, ↓k_cond, ↓x_idx, ↓k_block, Nat.reduceEqDiff, Nat.reduceBEq, ↓reduceIte, reduceCtorEq, g3]
    refine callW_S (g_Join (xs := ps.reverse) (ex := false) (by simpa using hne) (by simp; omega) (by rw [hps, hct]; exact hdl)) (by kernel_rfl) (snap_all (ex := ex0) (gr := true) (by simp [upd_app] <;> omega) (by simp)) rfl rfl ?_
    rw [hps, hct]
    simp (disch := omega) only [go_sem, ↓k_cond, ↓x_idx, ↓k_block, Nat.reduceEqDiff, Nat.reduceBEq, ↓reduceIte, reduceCtorEq]
    rw [← hQ]
    exact post_one (.inl rfl) rfl (by simp [upd_app] <;> omega) rfl
  · have hmp := enc_len_pos B32_gt hmz
    have hd : CW Tryz.prog 154 [natI m, .int .u32 1000000000] (.tup [natI (m / 1000000000), .int .u32 ((m % 1000000000 : Nat) : Int)]) := w_divSmall (a := m) (d := 1000000000) (by omega) (by decide) (by decide)
    obtain ⟨r, hr⟩ : ∃ r, m % 1000000000 = r := ⟨_, rfl⟩
    obtain ⟨q, hq⟩ : ∃ q, m / 1000000000 = q := ⟨_, rfl⟩
    have hrl : r < 1000000000 := by rw [← hr]; exact Nat.mod_lt _ (by decide)
    have hc := chunkD_pos hmz
    rw [hq, hr] at hd hc
    have hf := g_FormatUint (u := r) (by omega)
    have hl9 := decD_len (k := 9) (r := r) (by simpa using hrl) (by decide)
    have hpd := padD_eq 9 r (by simpa using hrl) (by decide)
    simp only [natI] at g0 hd
    by_cases hq0 : q = 0
    · subst hq0
      rw [if_pos rfl] at hc
      have hmr : m = r := by omega
      rw [enc_zero, natA_nil] at hd
      simp (disch := omega) only [go_sem, ↓k_cond, ↓x_idx, ↓k_block, Nat.reduceEqDiff, Nat.reduceBEq, ↓reduceIte, reduceCtorEq, g0, g3, hm0, hd, hf, strA_length, reach]
      (repeat (with_reducible refine Or.inr ?_))
      exact hJ (0, ps ++ [Lib.decDigits r]) _ ⟨(by simp [upd_app, natI, enc_zero, natA_nil] <;> omega), by simp [upd_app], ⟨false, by simp [upd_app, strA]⟩, (by simp <;> omega), by rw [← hps, hc, hmr]; simp, by omega⟩ (by simp only; omega)
    · rw [if_neg hq0] at hc
      have hql := enc_len_pos B32_gt hq0
      obtain ⟨l, hl⟩ : ∃ l, (Lib.decDigits r).length = l := ⟨_, rfl⟩
      have e9 : (9 : Int) - (l : Int) = ((9 - l : Nat) : Int) := by omega
      have hrp := g_Repeat (c := 9 - l) (by omega)
      rw [hl] at hl9 hpd
      have hpl2 : (padD 9 r).length = 9 := padD_len 9 r
      simp (disch := omega) only [go_sem, ↓k_cond, ↓x_idx, ↓k_block, Nat.reduceEqDiff, Nat.reduceBEq, ↓reduceIte, reduceCtorEq, g0, g3, hm0, hd, hf, hrp, strA_length, e9, hl, List.length_replicate, reach]
      (repeat (with_reducible refine Or.inr ?_))
      rw [← hpd]
      exact hJ (q, ps ++ [padD 9 r]) _ ⟨(by simp [upd_app, natI] <;> omega), by simp [upd_app], ⟨false, by simp [upd_app, strA]⟩, (by simp <;> omega), by rw [← hps, hc]; simp, by omega⟩ (by simp only; omega)
attribute [go_sem] w_natText
theorem beq49 {s : List UInt8} (h : s ≠ [49]) : (s == [49]) = false := by simpa using h
theorem w_ratText {m : Nat} {q : Rat} (h : m ≤ 274877906944) : CW Tryz.prog 100 [rI m q] (.tup [.str (numS q), .bool (okR q)]) := by
  refine cw (by kernel_rfl) (by simp [AV.pure, AV.pureL, natA_pure, natI_pure, natS_pure]) (by simp [AV.pure, AV.pureL, natA_pure, natI_pure, natS_pure]) ?_
  refine callOk_told (x := rI m q) told_rI (by simp) (by simp [AV.pure, AV.pureL, natA_pure, natI_pure, natS_pure]) fun ha => ?_
  obtain ⟨l1, l2⟩ := numS_len ha
  have h1 := w_natText (n := q.num.natAbs) (by have := len32 ha.1; omega)
  have h2 := w_natText (n := q.den) (by have := len32 ha.2; omega)
  rw [rI_eq ha, ratI, qd, numS, okR]
  simp only [natI] at h1 h2
  have hd : Lib.decDigits q.den = [49] → q.den = 1 := decD_is_one
  by_cases c2 : q.den = 1
  · rw [c2, decD_one] at h2
    simp only [c2, if_true, decD_one]
    generalize Lib.decDigits q.num.natAbs = s1 at *
    have hbb : (([49] : List UInt8) == [49]) = true := rfl
    by_cases c1 : q.num < 0 <;> by_cases k1 : s1.length ≤ 200
    all_goals
      simp only [c1, decide_true, decide_false, if_true, if_false]
      (refine callOk_of_wpc (W := fun _ => false) false hm' Tryz.func100 rfl (by kernel_rfl) (Nat.le_of_ble_eq_true rfl) (go_start ?_); generalize hQ : Post Tryz.prog Tryz.f100 _ _ _ _ _ = Q; simp only [stIn, matL, matA, st00, natI])
      simp (disch := omega) only [go_sem, ↓k_cond, ↓x_idx, ↓k_block, Nat.reduceEqDiff, Nat.reduceBEq, ↓reduceIte, reduceCtorEq, h1, h2, hbb, List.length_append, List.length_cons, List.length_nil]
      (repeat (with_reducible refine Or.inr ?_))
      rw [← hQ]
      exact post_two (.inl rfl) rfl (by simp [upd_app]) (by simp [upd_app, k1]) rfl rfl
  · have hne : (Lib.decDigits q.den == [49]) = false := beq49 fun h => c2 (hd h)
    clear hd
    simp only [c2, if_false]
    generalize Lib.decDigits q.num.natAbs = s1 at *
    generalize Lib.decDigits q.den = s2 at *
    by_cases c1 : q.num < 0 <;> by_cases k1 : s1.length ≤ 200 <;> by_cases k2 : s2.length ≤ 200
    all_goals
      simp only [c1, decide_true, decide_false, if_true, if_false]
      (refine callOk_of_wpc (W := fun _ => false) false hm' Tryz.func100 rfl (by kernel_rfl) (Nat.le_of_ble_eq_true rfl) (go_start ?_); generalize hQ : Post Tryz.prog Tryz.f100 _ _ _ _ _ = Q; simp only [stIn, matL, matA, st00, natI])
      simp (disch := omega) only [go_sem, ↓k_cond, ↓x_idx, ↓k_block, Nat.reduceEqDiff, Nat.reduceBEq, ↓reduceIte, reduceCtorEq, h1, h2, hne, List.length_append, List.length_cons, List.length_nil]
      (repeat (with_reducible refine Or.inr ?_))
      rw [← hQ]
      exact post_two (.inl rfl) rfl (by simp [upd_app]) (by simp [upd_app, k1, k2]) rfl rfl
attribute [go_sem] w_ratText
theorem w_told {m : Nat} {q : Rat} (h : m ≤ 274877906944) : CW Tryz.prog 67 [rI m q] (optT (toldR q)) := by
  refine cw (by kernel_rfl) (by simp [AV.pure, AV.pureL, natA_pure, natI_pure, natS_pure]) (by simp [AV.pure, AV.pureL, natA_pure, natI_pure, natS_pure]) ?_
  have h1 := w_ratText (m := m) (q := q) h
  rw [toldR]
  by_cases c : okR q = true
  · rw [if_pos c, optT_s]
    rw [c] at h1
    (refine callOk_of_wpc (W := fun _ => false) false hm' Tryz.func67 rfl (by kernel_rfl) (Nat.le_of_ble_eq_true rfl) (go_start ?_); generalize hQ : Post Tryz.prog Tryz.f67 _ _ _ _ _ = Q; simp only [stIn, matL, matA, st00])
    simp (disch := omega) only [go_sem, ↓k_cond, ↓x_idx, ↓k_block, Nat.reduceEqDiff, Nat.reduceBEq, ↓reduceIte, reduceCtorEq, h1]
    (repeat (with_reducible refine Or.inr ?_))
    rw [← hQ]
    exact post_two (.inl rfl) rfl (by simp [upd_app] <;> omega) (by simp [upd_app] <;> omega) rfl rfl
  · rw [if_neg c, optT_n]
    simp only [Bool.not_eq_true] at c
    rw [c] at h1
    (refine callOk_of_wpc (W := fun _ => false) false hm' Tryz.func67 rfl (by kernel_rfl) (Nat.le_of_ble_eq_true rfl) (go_start ?_); generalize hQ : Post Tryz.prog Tryz.f67 _ _ _ _ _ = Q; simp only [stIn, matL, matA, st00])
    simp (disch := omega) only [go_sem, ↓k_cond, ↓x_idx, ↓k_block, Nat.reduceEqDiff, Nat.reduceBEq, ↓reduceIte, reduceCtorEq, h1]
    (repeat (with_reducible refine Or.inr ?_))
    rw [← hQ]
    exact post_two (.inl rfl) rfl (by simp [upd_app] <;> omega) (by simp [upd_app] <;> omega) rfl rfl
theorem i_toldList {m : Nat} {qs : List Rat} (hmb : m ≤ 274877906944) (hl : qs.length ≤ 1000) (h0 : qs ≠ []) : CallOk Tryz.prog 53 [lI m qs] (optTL (qs.mapM toldR)) [] := by
  obtain ⟨n, hn⟩ : ∃ n, qs.length = n := ⟨_, rfl⟩
  have hn0 := List.length_pos_iff.2 h0
  rw [hn] at hl hn0
  (refine callOk_of_wpc (W := fun _ => false) true hm' Tryz.func53 rfl (by kernel_rfl) (Nat.le_of_ble_eq_true rfl) (go_start ?_); generalize hQ : Post Tryz.prog Tryz.f53 _ _ _ _ _ = Q; simp only [stIn, matL, matA, st00])
  simp (disch := omega) only [go_sem, ↓k_cond, ↓x_idx, ↓k_block, Nat.reduceEqDiff, Nat.reduceBEq, ↓reduceIte, reduceCtorEq, hn]
  refine k_loop (fun (⟨i, ts⟩ : Nat × List (List UInt8)) st => st.fr 4 = .ref 0 i 0 i ∧ st.fr 10 = lI m qs ∧ st.fr 11 = .int .i64 n ∧ st.fr 12 = .int .i64 i ∧ st.h 0 = ⟨9, strA ts, (i == 0), true, true⟩ ∧ 0 < st.nx ∧ (ts.length = i) ∧ (i ≤ n) ∧ ((qs.take i).mapM toldR = some ts)) (fun (⟨i, ts⟩ : Nat × List (List UInt8)) => n - i) (0, [])
    ⟨(by simp [upd_app, strA] <;> omega), (by simp [upd_app, strA] <;> omega), (by simp [upd_app, strA] <;> omega), (by simp [upd_app, strA] <;> omega), (by simp [upd_app, strA] <;> omega), (by simp <;> omega), rfl, by omega, rfl⟩ ?_
  rintro ⟨i, ts⟩ ⟨fr, h, nx⟩ ⟨g4, g10, g11, g12, hm0, hnx, htl, hi, hq⟩ J hJ
  simp only at g4 g10 g11 g12 hm0 hnx
  have n1 : (0 = nx) = False := by simp; omega
  have n2 : (nx = 0) = False := by simp; omega
  by_cases hin : i < n
  · obtain ⟨q, hqi⟩ := get_some (xs := qs) (i := i) (by omega)
    have hg := w_ratText (m := m) (q := q) hmb
    by_cases hok : okR q = true
    · have hp : toldR q = some (numS q) := by rw [toldR, if_pos hok]
      have hmt := mapM_take hq hqi hp
      rw [hok] at hg
      have hel : (strA ts).length = i := by rw [strA_length, htl]
      simp (disch := omega) only [go_sem, ↓k_cond, ↓x_idx, ↓k_block, Nat.reduceEqDiff, Nat.reduceBEq, ↓reduceIte, reduceCtorEq, g4, g10, g11, g12, hqi, hg, hm0, hel, n1, n2, reach]
      (repeat (with_reducible refine Or.inr ?_))
      exact hJ (i + 1, ts ++ [numS q]) _ ⟨(by simp [upd_app] <;> omega), (by simp [upd_app, g10] <;> omega), (by simp [upd_app, g11] <;> omega), (by simp [upd_app] <;> omega), by simp [upd_app, strA, n1, n2, hm0], (by simp <;> omega), by simp [htl], hin, hmt⟩ (by simp only; omega)
    · have hp : toldR q = none := by rw [toldR, if_neg hok]
      simp only [Bool.not_eq_true] at hok
      rw [mapM_fail hqi hp, optTL] at hQ
      rw [hok] at hg
      simp (disch := omega) only [go_sem, ↓k_cond, ↓x_idx, ↓k_block, Nat.reduceEqDiff, Nat.reduceBEq, ↓reduceIte, reduceCtorEq, g4, g10, g11, g12, hqi, hg]
      (repeat (with_reducible refine Or.inr ?_))
      rw [← hQ]
      exact postT_two (.inl rfl) rfl (by simp [upd_app] <;> omega) (by simp [upd_app] <;> omega) rfl rfl
  · obtain rfl : i = n := by omega
    rw [List.take_of_length_le (by omega)] at hq
    rw [hq, optTL] at hQ
    simp (disch := omega) only [go_sem, ↓k_cond, ↓x_idx, ↓k_block, Nat.reduceEqDiff, Nat.reduceBEq, ↓reduceIte, reduceCtorEq, g4, g10, g11, g12]
    rw [← hQ]
    have hz : (i == 0) = false := by simp; omega
    exact post_ownB (id := 0) (n := i) (len := i) (.inl rfl) rfl (by simp [upd_app] <;> omega) (by simp [upd_app] <;> omega) (by simp [hm0]) (by simp [hm0, strA_length, htl]) (by simp [hm0]) (by simp [hm0]) (Nat.le_refl _) (by simp only [hm0]; exact List.take_of_length_le (by rw [strA_length, htl]; exact Nat.le_refl _)) (by simp [hm0, hz]) (by simp [hm0, hz]) (strA_pure _) rfl
attribute [go_sem] w_told
theorem w_seriesOf {xs : List (List UInt8)} (hl : xs.length < 9223372036854775808) (hs : ∀ x ∈ xs, x.length < 9223372036854775808) : CW Tryz.prog 50 [.sl 9 (strA xs) [] false] (optLI (serR xs)) := by
  refine cw (by kernel_rfl) (by simp [AV.pure, AV.pureL, natA_pure, natI_pure, natS_pure]) (by simp [AV.pure, AV.pureL, natA_pure, natI_pure, natS_pure]) ?_
  have h1 := w_rats (xs := xs) hl hs
  obtain ⟨n, hn⟩ : ∃ n, xs.length = n := ⟨_, rfl⟩
  rw [serR, hn]
  rw [hn] at hl
  by_cases c1 : 1 ≤ n
  · by_cases c2 : n ≤ 13
    · rw [if_pos ⟨c1, c2⟩]
      cases hq : listR xs with
      | none =>
        rw [hq] at h1
        (refine callOk_of_wpc (W := fun _ => false) false hm' Tryz.func50 rfl (by kernel_rfl) (Nat.le_of_ble_eq_true rfl) (go_start ?_); generalize hQ : Post Tryz.prog Tryz.f50 _ _ _ _ _ = Q; simp only [stIn, matL, matA, st00])
        simp (disch := omega) only [go_sem, ↓k_cond, ↓x_idx, ↓k_block, Nat.reduceEqDiff, Nat.reduceBEq, ↓reduceIte, reduceCtorEq, h1, strA_length, hn]
        (repeat (with_reducible refine Or.inr ?_))
        rw [← hQ]
        exact post_two (.inl rfl) rfl (by simp [upd_app] <;> omega) (by simp [upd_app] <;> omega) rfl rfl
      | some qs =>
        rw [hq] at h1
        (refine callOk_of_wpc (W := fun _ => false) false hm' Tryz.func50 rfl (by kernel_rfl) (Nat.le_of_ble_eq_true rfl) (go_start ?_); generalize hQ : Post Tryz.prog Tryz.f50 _ _ _ _ _ = Q; simp only [stIn, matL, matA, st00])
        simp (disch := omega) only [go_sem, ↓k_cond, ↓x_idx, ↓k_block, Nat.reduceEqDiff, Nat.reduceBEq, ↓reduceIte, reduceCtorEq, h1, strA_length, hn]
        (repeat (with_reducible refine Or.inr ?_))
        rw [← hQ]
        exact post_two (.inl rfl) rfl (by simp [upd_app] <;> omega) (by simp [upd_app] <;> omega) (by simp [AV.pure, AV.pureL, natA_pure, natI_pure, natS_pure]) rfl
    · rw [if_neg (by omega)]
      (refine callOk_of_wpc (W := fun _ => false) false hm' Tryz.func50 rfl (by kernel_rfl) (Nat.le_of_ble_eq_true rfl) (go_start ?_); generalize hQ : Post Tryz.prog Tryz.f50 _ _ _ _ _ = Q; simp only [stIn, matL, matA, st00])
      simp (disch := omega) only [go_sem, ↓k_cond, ↓x_idx, ↓k_block, Nat.reduceEqDiff, Nat.reduceBEq, ↓reduceIte, reduceCtorEq, strA_length, hn]
      rw [← hQ]
      exact post_two (.inl rfl) rfl (by simp [upd_app] <;> omega) (by simp [upd_app] <;> omega) rfl rfl
  · rw [if_neg (by omega)]
    obtain rfl : n = 0 := by omega
    (refine callOk_of_wpc (W := fun _ => false) false hm' Tryz.func50 rfl (by kernel_rfl) (Nat.le_of_ble_eq_true rfl) (go_start ?_); generalize hQ : Post Tryz.prog Tryz.f50 _ _ _ _ _ = Q; simp only [stIn, matL, matA, st00])
    simp (disch := omega) only [go_sem, ↓k_cond, ↓x_idx, ↓k_block, Nat.reduceEqDiff, Nat.reduceBEq, ↓reduceIte, reduceCtorEq, strA_length, hn]
    rw [← hQ]
    exact post_two (.inl rfl) rfl (by simp [upd_app] <;> omega) (by simp [upd_app] <;> omega) rfl rfl
theorem facI_fits {qs : List Rat} {n k i : Nat} {q : Rat} (hq : fits 700 q) (hk : k ≤ 12) (hi : i ≤ 6) : fits 764 (q * (facP k i : Rat)) := fits_mul hq (facP_fits hk hi) (fits_pos hq)
attribute [go_sem] w_seriesOf
theorem w_factorMoment {qs : List Rat} {n : Nat} (hl : qs.length ≤ 13) (hn6 : n ≤ 6) : CW Tryz.prog 69 [lI 700 qs, .int .i64 n] (rI (64 + qs.length * 765) (facSum qs n qs.length)) := by
  refine cw (by kernel_rfl) (by simp [AV.pure, AV.pureL, natA_pure, natI_pure, natS_pure]) (by simp [AV.pure, AV.pureL, natA_pure, natI_pure, natS_pure]) ?_
  refine callOk_told (x := lI 700 qs) told_lI (by simp) (by simp [AV.pure, AV.pureL, natA_pure, natI_pure, natS_pure]) fun hfit => ?_
  obtain ⟨L, hL⟩ : ∃ n, qs.length = n := ⟨_, rfl⟩
  rw [hL] at hl ⊢
  (refine callOk_of_wpc (W := fun _ => false) false hm' Tryz.func69 rfl (by kernel_rfl) (Nat.le_of_ble_eq_true rfl) (go_start ?_); generalize hQ : Post Tryz.prog Tryz.f69 _ _ _ _ _ = Q; simp only [stIn, matL, matA, st00])
  simp (disch := omega) only [go_sem, ↓k_cond, ↓x_idx, ↓k_block, Nat.reduceEqDiff, Nat.reduceBEq, ↓reduceIte, reduceCtorEq, hL]
  (repeat (with_reducible refine Or.inr ?_))
  refine k_loop (fun (k : Nat) st => st.fr 1 = .int .i64 n ∧ st.fr 4 = .ptr 0 1 0 0 ∧ st.fr 5 = .ptr 1 1 0 0 ∧ st.fr 10 = lI 700 qs ∧ st.fr 11 = .int .i64 L ∧ st.fr 12 = .int .i64 k ∧ st.h 0 = ⟨52, [.agg [.bool false, .nil, .nil]], true, false, true⟩ ∧ st.h 1 = ⟨52, [rI (64 + k * 765) (facSum qs n k)], true, false, true⟩ ∧ 1 < st.nx ∧ (k ≤ L)) (fun (k : Nat) => L - k) (0)
    ⟨(by simp [upd_app, facSum] <;> omega), (by simp [upd_app, facSum] <;> omega), (by simp [upd_app, facSum] <;> omega), (by simp [upd_app, facSum] <;> omega), (by simp [upd_app, facSum] <;> omega), (by simp [upd_app, facSum] <;> omega), (by simp [upd_app, facSum] <;> omega), (by simp [upd_app, facSum] <;> omega), (by simp <;> omega), by omega⟩ ?_
  rintro k ⟨fr, h, nx⟩ ⟨g1, g4, g5, g10, g11, g12, hm0, hm1, hnx, hk⟩ J hJ
  simp only at g1 g4 g5 g10 g11 g12 hm0 hm1 hnx
  have n1 : (0 = nx) = False := by simp; omega
  have n2 : (nx = 0) = False := by simp; omega
  have n3 : (1 = nx) = False := by simp; omega
  have n4 : (nx = 1) = False := by simp; omega
  by_cases hin : k < L
  · obtain ⟨q, hq⟩ := get_some (xs := qs) (i := k) (by omega)
    have hqf := hfit q (List.mem_of_getElem? hq)
    have hre : rI 700 q = rI 764 q := rI_re hqf (fits_mono hqf (by decide))
    have hgd : qs.getD k 0 = q := by rw [List.getD_eq_getElem?_getD, hq]; rfl
    have keyJ := hJ (k + 1)
    have e : 64 + (k + 1) * 765 = 64 + k * 765 + 764 + 1 := by omega
    rw [facSum, hgd, e] at keyJ
    clear hJ
    simp (disch := omega) only [go_sem, ↓k_cond, ↓x_idx, ↓k_block, Nat.reduceEqDiff, Nat.reduceBEq, ↓reduceIte, reduceCtorEq, g1, g4, g5, g10, g11, g12, hq]
    refine k_loop (fun (i : Nat) st => st.fr 1 = .int .i64 n ∧ st.fr 4 = .ptr 0 1 0 0 ∧ st.fr 5 = .ptr 1 1 0 0 ∧ st.fr 6 = .int .i64 k ∧ st.fr 7 = .ptr nx 1 0 0 ∧ st.fr 10 = lI 700 qs ∧ st.fr 11 = .int .i64 L ∧ st.fr 12 = .int .i64 k ∧ st.fr 17 = .int .i64 n ∧ st.fr 18 = .int .i64 i ∧
        st.h 0 = ⟨52, [.agg [.bool false, .nil, .nil]], true, false, true⟩ ∧ st.h 1 = ⟨52, [rI (64 + k * 765) (facSum qs n k)], true, false, true⟩ ∧ st.h nx = ⟨52, [rI 764 (q * (facP k i : Rat))], true, false, true⟩ ∧ nx < st.nx ∧ i ≤ n) (fun i => n - i) 0
      ⟨(by simp [upd_app, g1] <;> omega), (by simp [upd_app, g4] <;> omega), (by simp [upd_app, g5] <;> omega), (by simp [upd_app] <;> omega), (by simp [upd_app] <;> omega), (by simp [upd_app, g10] <;> omega), (by simp [upd_app, g11] <;> omega), (by simp [upd_app, g12] <;> omega), (by simp [upd_app] <;> omega), (by simp [upd_app] <;> omega), by simp [upd_app, n1, hm0], by simp [upd_app, n3, hm1], by simp [upd_app, facP, Rat.mul_one, hre], by simp, by omega⟩ ?_
    rintro i ⟨fr2, h2, nx2⟩ ⟨r1, r4, r5, r6, r7, r10, r11, r12, r17, r18, m0, m1, mx, hx2, hi⟩ J2 hJ2
    simp only at r1 r4 r5 r6 r7 r10 r11 r12 r17 r18 m0 m1 mx hx2
    by_cases hin2 : i < n
    · have hw : IntKind.i64.wrap ((k : Int) - (i : Int)) = (k : Int) - (i : Int) := wrapI (by omega) (by omega)
      have hf := facI_fits (q := q) (n := n) (qs := qs) (k := k) (i := i + 1) hqf (by omega) (by omega)
      have hrr : rI (764 + 64) (q * (facP k i : Rat) * (((k : Int) - (i : Int) : Int) : Rat)) = rI 764 (q * (facP k (i + 1) : Rat)) := by rw [facP_step]; exact rI_re (fits_mono hf (by decide)) hf
      simp (disch := omega) only [go_sem, ↓k_cond, ↓x_idx, ↓k_block, Nat.reduceEqDiff, Nat.reduceBEq, ↓reduceIte, reduceCtorEq, r1, r4, r5, r6, r7, r10, r11, r12, r17, r18, m0, m1, mx, hw, hrr]
      (repeat (with_reducible refine Or.inr ?_))
      exact hJ2 (i + 1) _ ⟨(by simp [upd_app, r1] <;> omega), (by simp [upd_app, r4] <;> omega), (by simp [upd_app, r5] <;> omega), (by simp [upd_app, r6] <;> omega), (by simp [upd_app, r7] <;> omega), (by simp [upd_app, r10] <;> omega), (by simp [upd_app, r11] <;> omega), (by simp [upd_app, r12] <;> omega), (by simp [upd_app, r17] <;> omega), (by simp [upd_app] <;> omega), by simp [upd_app, n1, m0], by simp [upd_app, n3, m1], by simp [upd_app], hx2, hin2⟩ (by omega)
    · obtain rfl : i = n := by omega
      simp (disch := omega) only [go_sem, ↓k_cond, ↓x_idx, ↓k_block, Nat.reduceEqDiff, Nat.reduceBEq, ↓reduceIte, reduceCtorEq, r1, r4, r5, r6, r7, r10, r11, r12, r17, r18, m0, m1, mx]
      (repeat (with_reducible refine Or.inr ?_))
      exact keyJ _ ⟨(by simp [upd_app, r1] <;> omega), (by simp [upd_app, r4] <;> omega), (by simp [upd_app, r5] <;> omega), (by simp [upd_app, r10] <;> omega), (by simp [upd_app, r11] <;> omega), (by simp [upd_app] <;> omega), by simp [upd_app, m0], by simp [upd_app], by simp only; omega, hin⟩ (by omega)
  · obtain rfl : k = L := by omega
    simp (disch := omega) only [go_sem, ↓k_cond, ↓x_idx, ↓k_block, Nat.reduceEqDiff, Nat.reduceBEq, ↓reduceIte, reduceCtorEq, g1, g4, g5, g10, g11, g12, hm0, hm1]
    (repeat (with_reducible refine Or.inr ?_))
    rw [← hQ]
    exact post_cell1 (id := 0) (x := rI (64 + k * 765) (facSum qs n k)) (.inl rfl) rfl o_iRat (by simp [upd_app, g4] <;> omega) (by simp [upd_app]) (by simp [upd_app]) ld_iRat (by simp [AV.pure, AV.pureL])
theorem i_FactorMoment {xs : List (List UInt8)} {n : Int} (hl : xs.length < 9223372036854775808) (hs : ∀ x ∈ xs, x.length < 9223372036854775808) : CallOk Tryz.prog 28 [.sl 9 (strA xs) [] false, .int .i64 n] (optT (facT xs n)) [] := by
  have h1 := w_seriesOf (xs := xs) hl hs
  have h2 := w_in (n := n) (a := 0) (b := 6)
  unfold facT
  cases hq : serR xs with
  | none =>
    rw [hq] at h1
    (refine callOk_of_wpc (W := fun _ => false) false hm' Tryz.func28 rfl (by kernel_rfl) (Nat.le_of_ble_eq_true rfl) (go_start ?_); generalize hQ : Post Tryz.prog Tryz.f28 _ _ _ _ _ = Q; simp only [stIn, matL, matA, st00])
    simp (disch := omega) only [go_sem, ↓k_cond, ↓x_idx, ↓k_block, Nat.reduceEqDiff, Nat.reduceBEq, ↓reduceIte, reduceCtorEq, h1]
    (repeat (with_reducible refine Or.inr ?_))
    rw [← hQ]
    exact post_two (.inl rfl) rfl (by simp [upd_app] <;> omega) (by simp [upd_app] <;> omega) rfl rfl
  | some qs =>
    rw [hq] at h1
    obtain ⟨_, _, h4, h5⟩ := serR_some hq
    by_cases c : 0 ≤ n ∧ n ≤ 6
    · obtain ⟨k, rfl⟩ : ∃ k : Nat, n = k := ⟨n.toNat, by omega⟩
      simp only [if_pos c, Int.toNat_natCast]
      have h3 := w_factorMoment (qs := qs) (n := k) h5 (by omega)
      have h6 := w_told (m := 64 + qs.length * 765) (q := facSum qs k qs.length) (by omega)
      simp only [decide_eq_true c] at h2
      cases ht : toldR (facSum qs k qs.length)
      all_goals
        rw [ht] at h6
        (refine callOk_of_wpc (W := fun _ => false) false hm' Tryz.func28 rfl (by kernel_rfl) (Nat.le_of_ble_eq_true rfl) (go_start ?_); generalize hQ : Post Tryz.prog Tryz.f28 _ _ _ _ _ = Q; simp only [stIn, matL, matA, st00])
        simp (disch := omega) only [go_sem, ↓k_cond, ↓x_idx, ↓k_block, Nat.reduceEqDiff, Nat.reduceBEq, ↓reduceIte, reduceCtorEq, h1, h2, h3, h6]
        (repeat (with_reducible refine Or.inr ?_))
        rw [← hQ]
        exact post_two (.inl rfl) rfl (by simp [upd_app] <;> omega) (by simp [upd_app] <;> omega) rfl rfl
    · rw [decide_eq_false c] at h2
      simp only [if_neg c]
      (refine callOk_of_wpc (W := fun _ => false) false hm' Tryz.func28 rfl (by kernel_rfl) (Nat.le_of_ble_eq_true rfl) (go_start ?_); generalize hQ : Post Tryz.prog Tryz.f28 _ _ _ _ _ = Q; simp only [stIn, matL, matA, st00])
      simp (disch := omega) only [go_sem, ↓k_cond, ↓x_idx, ↓k_block, Nat.reduceEqDiff, Nat.reduceBEq, ↓reduceIte, reduceCtorEq, h1, h2]
      (repeat (with_reducible refine Or.inr ?_))
      rw [← hQ]
      exact post_two (.inl rfl) rfl (by simp [upd_app] <;> omega) (by simp [upd_app] <;> omega) rfl rfl
attribute [go_sem] w_factorMoment
end Go.Proofs.YtfhpphmdpjebcaaGreatDoor
