/- Proved: whatever list of texts is handed to laws.FnExactIsSeries, the law answers true and the list reads as it did. Condition: the listed variables of the standard library (the tables of math/bits and internal/strconv, ErrRange and ErrSyntax of strconv) start as the program lays them; the card ties them to its text. -/
import Derived.Test.YtogabejpbdmnnaaDoorCards
import Derived.Test.YtogabejpbdmnnaaDoorTie
import Derived.ProofKit
import Derived.LaidMore
import Derived.LaidLaws
import Derived.LaidHandle
import Derived.OpenShut
import Derived.WalkKit
import Derived.ShutString
import Derived.SizedLaws
import Derived.SliceStrings
import Derived.Below
import Derived.Carry
import Derived.Stop.Joined
import Derived.SevenTiedAt
import Derived.Test.YtogabejpbdmnnaaDoorM10

set_option linter.unusedVariables false
set_option linter.unusedSimpArgs false

/- What the laws do with lists of texts: copies with room behind; the law of IsSeries. -/
set_option linter.unusedSimpArgs false
set_option linter.unusedVariables false
namespace Go.Proofs.YtogabejpbdmnnaaDoor
open Go

def spareT : List UInt8 := [126, 115, 112, 97, 114, 101, 126]
def spareL (n : Nat) : List (List UInt8) := List.replicate (roomB n) spareT
theorem strA_put {xs : List (List UInt8)} {i : Nat} {v : List UInt8} : (strA xs).set i (.str v) = strA (xs.set i v) := by simp [strA, List.map_set]
theorem strA_rep {n : Nat} : List.replicate n (AV.str []) = strA (List.replicate n []) := by simp [strA]
theorem strA_append {xs ys : List (List UInt8)} : strA xs ++ strA ys = strA (xs ++ ys) := by simp [strA]
theorem strA_take {xs : List (List UInt8)} {n : Nat} : (strA xs).take n = strA (xs.take n) := by simp [strA, List.map_take]
theorem strA_drop {xs : List (List UInt8)} {n : Nat} : (strA xs).drop n = strA (xs.drop n) := by simp [strA, List.map_drop]
theorem rep_set {α : Type} {a : List α} {k : Nat} {z v : α} : (a ++ List.replicate (k + 1) z).set a.length v = (a ++ [v]) ++ List.replicate k z := by
  rw [List.set_append_right _ _ (Nat.le_refl _), Nat.sub_self, List.replicate_succ, List.set_cons_zero]; simp
theorem l_to (xs : List (List UInt8)) (b : Bool) (hb : b = false ∨ xs ≠ []) (hn : xs.length ≤ 1000000) : CallOk Tryd.prog 6 [.sl 9 (strA xs) [] false, .bool b] (.own 9 (strA xs) (strA (spareL xs.length)) true) [] := by
  obtain ⟨n, hn'⟩ : ∃ n, xs.length = n := ⟨_, rfl⟩
  rw [hn'] at hn ⊢
  obtain ⟨r, hr⟩ : ∃ r, roomB n = r := ⟨_, rfl⟩
  have hrl := room_le n
  rw [hr] at hrl
  have hsp : spareL n = List.replicate r spareT := by rw [spareL, hr]
  have hroom := l_room n (by omega)
  rw [hr] at hroom
  have hne : b = true → ¬ n = 0 := fun h h0 => by rcases hb with h' | h'; rw [h] at h'; cases h'; exact h' (List.length_eq_zero_iff.1 (by omega))
  (refine callOk_of_wpc (W := fun _ => false) true hm' Tryd.func6 rfl (by kernel_rfl) (Nat.le_of_ble_eq_true rfl) (go_start ?_); generalize hQ : Post Tryd.prog Tryd.f6 _ _ _ _ _ = Q; simp only [stIn, matL, matA, st00])
  obtain ⟨R, hR⟩ : ∃ R : Nat → St → Prop, R = fun i st => st.fr 0 = .sl 9 (strA xs) [] false ∧ st.fr 5 = .ref 0 (n + r) 0 (n + r) ∧ st.fr 6 = .int .i64 i ∧ i ≤ n ∧ st.h 0 = ⟨9, strA (xs.take i ++ List.replicate (n + r - i) []), true, true, true⟩ := ⟨_, rfl⟩
  obtain ⟨R2, hR2⟩ : ∃ R : Nat → St → Prop, R = fun i st => st.fr 0 = .sl 9 (strA xs) [] false ∧ st.fr 5 = .ref 0 (n + r) 0 (n + r) ∧ st.fr 7 = .int .i64 ((n + i : Nat) : Int) ∧ i ≤ r ∧ st.h 0 = ⟨9, strA ((xs ++ List.replicate i spareT) ++ List.replicate (r - i) []), true, true, true⟩ := ⟨_, rfl⟩
  cases b with
  | false =>
    simp (disch := omega) only [go_sem, ↓k_cond, ↓x_idx, ↓k_block, Nat.reduceEqDiff, ↓reduceIte, reduceCtorEq, if_pos, if_neg, decide_eq_true, decide_eq_false, beqT, beqF, bneT, bneF, wrapI, wrapU32, wrapU64, wrapU8, nc_add, nc_addL, nc_addR, nc_mul, nc_mulL, nc_mulR, nc_div, nc_divL, nc_mod, nc_modL, nc_1, nc_sub1, natA_at, natA_put, eatH_one, Int.toNat_natCast, Option.map_some, shr32, shl32, List.getD_cons_zero, List.getD_cons_succ, List.length_set, List.set_cons_zero, List.set_cons_succ, strA_length, hn']
    refine x_callP hroom cl_room (by simp [evA, upd_app]) (by simp [AV.pure, AV.pureL]) rfl ?_
    simp (disch := omega) only [go_sem, ↓k_cond, ↓x_idx, ↓k_block, Nat.reduceEqDiff, ↓reduceIte, reduceCtorEq, if_pos, if_neg, decide_eq_true, decide_eq_false, beqT, beqF, bneT, bneF, wrapI, wrapU32, wrapU64, wrapU8, nc_add, nc_addL, nc_addR, nc_mul, nc_mulL, nc_mulR, nc_div, nc_divL, nc_mod, nc_modL, nc_1, nc_sub1, natA_at, natA_put, eatH_one, Int.toNat_natCast, Option.map_some, shr32, shl32, List.getD_cons_zero, List.getD_cons_succ, List.length_set, List.set_cons_zero, List.set_cons_succ, strA_length, hn', reach, strA_rep]
    refine k_loop R (fun i => n - i) 0 (by rw [hR]; exact ⟨(by first | (simp only [upd_app, ↓reduceIte, Nat.reduceEqDiff]; done) | (simp [upd_app]; done) | (simp [upd_app]; omega)), (by first | (simp only [upd_app, ↓reduceIte, Nat.reduceEqDiff]; done) | (simp [upd_app]; done) | (simp [upd_app]; omega)), (by first | (simp only [upd_app, ↓reduceIte, Nat.reduceEqDiff]; done) | (simp [upd_app]; done) | (simp [upd_app]; omega)), by omega, by simp [upd_app]⟩) ?_
    rintro i ⟨fr, h, nx⟩ hst J hJ
    rw [hR] at hst
    obtain ⟨g0, g5, g6, hi, hm⟩ := hst
    simp only at g0 g5 g6 hm
    by_cases hin : i < n
    · obtain ⟨x, hx⟩ := get_some (xs := xs) (i := i) (by omega)
      have hal : (xs.take i ++ List.replicate (n + r - i) ([] : List UInt8)).length = n + r := by simp; omega
      have hti : (xs.take i).length = i := by simp; omega
      have hset : (xs.take i ++ List.replicate (n + r - i) ([] : List UInt8)).set i x = xs.take (i + 1) ++ List.replicate (n + r - (i + 1)) [] := by
        have h1 := rep_set (a := xs.take i) (k := n + r - (i + 1)) (z := ([] : List UInt8)) (v := x)
        rw [hti, show n + r - (i + 1) + 1 = n + r - i by omega] at h1
        rw [h1, List.take_add_one, hx]; rfl
      have hget : (xs.take i ++ List.replicate (n + r - i) ([] : List UInt8))[i]? = some [] := by
        rw [List.getElem?_append_right (by omega), hti, Nat.sub_self, List.getElem?_replicate, if_pos (by omega)]
      simp (disch := omega) only [go_sem, ↓k_cond, ↓x_idx, ↓k_block, Nat.reduceEqDiff, ↓reduceIte, reduceCtorEq, if_pos, if_neg, decide_eq_true, decide_eq_false, beqT, beqF, bneT, bneF, wrapI, wrapU32, wrapU64, wrapU8, nc_add, nc_addL, nc_addR, nc_mul, nc_mulL, nc_mulR, nc_div, nc_divL, nc_mod, nc_modL, nc_1, nc_sub1, natA_at, natA_put, eatH_one, Int.toNat_natCast, Option.map_some, shr32, shl32, List.getD_cons_zero, List.getD_cons_succ, List.length_set, List.set_cons_zero, List.set_cons_succ, g0, g5, g6, strA_length, strA_at, hn', hx, hm, hal, strA_put, hset, hget]
      exact hJ (i + 1) _ (by rw [hR]; exact ⟨(by first | (simp only [upd_app, ↓reduceIte, Nat.reduceEqDiff, g0]; done) | (simp [upd_app, g0]; done) | (simp [upd_app, g0]; omega)), (by first | (simp only [upd_app, ↓reduceIte, Nat.reduceEqDiff, g5]; done) | (simp [upd_app, g5]; done) | (simp [upd_app, g5]; omega)), (by first | (simp only [upd_app, ↓reduceIte, Nat.reduceEqDiff]; done) | (simp [upd_app]; done) | (simp [upd_app]; omega)), hin, by simp [upd_app]⟩) (by omega)
    · obtain rfl : i = n := by omega
      rw [List.take_of_length_le (by omega), show i + r - i = r by omega] at hm
      clear hJ hR
      simp (disch := omega) only [go_sem, ↓k_cond, ↓x_idx, ↓k_block, Nat.reduceEqDiff, ↓reduceIte, reduceCtorEq, if_pos, if_neg, decide_eq_true, decide_eq_false, beqT, beqF, bneT, bneF, wrapI, wrapU32, wrapU64, wrapU8, nc_add, nc_addL, nc_addR, nc_mul, nc_mulL, nc_mulR, nc_div, nc_divL, nc_mod, nc_modL, nc_1, nc_sub1, natA_at, natA_put, eatH_one, Int.toNat_natCast, Option.map_some, shr32, shl32, List.getD_cons_zero, List.getD_cons_succ, List.length_set, List.set_cons_zero, List.set_cons_succ, g0, g5, g6, strA_length, hn']
      refine k_loop R2 (fun i => r - i) 0 (by rw [hR2]; exact ⟨(by first | (simp only [upd_app, ↓reduceIte, Nat.reduceEqDiff, g0]; done) | (simp [upd_app, g0]; done) | (simp [upd_app, g0]; omega)), (by first | (simp only [upd_app, ↓reduceIte, Nat.reduceEqDiff, g5]; done) | (simp [upd_app, g5]; done) | (simp [upd_app, g5]; omega)), (by first | (simp only [upd_app, ↓reduceIte, Nat.reduceEqDiff]; done) | (simp [upd_app]; done) | (simp [upd_app]; omega)), by omega, by simpa using hm⟩) ?_
      clear g0 g5 g6 hm
      rintro j ⟨fr, h, nx⟩ hst J hJ
      rw [hR2] at hst
      obtain ⟨g0, g5, g7, hj, hm⟩ := hst
      simp only at g0 g5 g7 hm
      have hal : ((xs ++ List.replicate j spareT) ++ List.replicate (r - j) ([] : List UInt8)).length = i + r := by simp; omega
      by_cases hjr : j < r
      · have hti : (xs ++ List.replicate j spareT).length = i + j := by simp; omega
        have hset : ((xs ++ List.replicate j spareT) ++ List.replicate (r - j) ([] : List UInt8)).set (i + j) [126, 115, 112, 97, 114, 101, 126] = (xs ++ List.replicate (j + 1) spareT) ++ List.replicate (r - (j + 1)) [] := by
          have h1 := rep_set (a := xs ++ List.replicate j spareT) (k := r - (j + 1)) (z := ([] : List UInt8)) (v := spareT)
          rw [hti, show r - (j + 1) + 1 = r - j by omega] at h1
          rw [show ([126, 115, 112, 97, 114, 101, 126] : List UInt8) = spareT from rfl, h1, List.replicate_succ', List.append_assoc xs]
        have hget : ((xs ++ List.replicate j spareT) ++ List.replicate (r - j) ([] : List UInt8))[i + j]? = some [] := by
          rw [List.getElem?_append_right (by omega), hti, Nat.sub_self, List.getElem?_replicate, if_pos (by omega)]
        simp (disch := omega) only [go_sem, ↓k_cond, ↓x_idx, ↓k_block, Nat.reduceEqDiff, ↓reduceIte, reduceCtorEq, if_pos, if_neg, decide_eq_true, decide_eq_false, beqT, beqF, bneT, bneF, wrapI, wrapU32, wrapU64, wrapU8, nc_add, nc_addL, nc_addR, nc_mul, nc_mulL, nc_mulR, nc_div, nc_divL, nc_mod, nc_modL, nc_1, nc_sub1, natA_at, natA_put, eatH_one, Int.toNat_natCast, Option.map_some, shr32, shl32, List.getD_cons_zero, List.getD_cons_succ, List.length_set, List.set_cons_zero, List.set_cons_succ, g0, g5, g7, strA_length, strA_at, hm, hal, strA_put, hset, hget]
        exact hJ (j + 1) _ (by rw [hR2]; exact ⟨(by first | (simp only [upd_app, ↓reduceIte, Nat.reduceEqDiff, g0]; done) | (simp [upd_app, g0]; done) | (simp [upd_app, g0]; omega)), (by first | (simp only [upd_app, ↓reduceIte, Nat.reduceEqDiff, g5]; done) | (simp [upd_app, g5]; done) | (simp [upd_app, g5]; omega)), (by first | (simp only [upd_app, ↓reduceIte, Nat.reduceEqDiff]; done) | (simp [upd_app]; done) | (simp [upd_app]; omega)), hjr, by simp [upd_app]⟩) (by omega)
      · obtain rfl : j = r := by omega
        rw [Nat.sub_self, List.replicate_zero, List.append_nil] at hm hal
        simp (disch := omega) only [go_sem, ↓k_cond, ↓x_idx, ↓k_block, Nat.reduceEqDiff, ↓reduceIte, reduceCtorEq, if_pos, if_neg, decide_eq_true, decide_eq_false, beqT, beqF, bneT, bneF, wrapI, wrapU32, wrapU64, wrapU8, nc_add, nc_addL, nc_addR, nc_mul, nc_mulL, nc_mulR, nc_div, nc_divL, nc_mod, nc_modL, nc_1, nc_sub1, natA_at, natA_put, eatH_one, Int.toNat_natCast, Option.map_some, shr32, shl32, List.getD_cons_zero, List.getD_cons_succ, List.length_set, List.set_cons_zero, List.set_cons_succ, g0, g5, g7, strA_length, hm, hal, hn']
        rw [← hQ]
        exact post_own (id := 0) (n := i + j) (len := i) (.inl rfl) rfl (by first | (simp only [upd_app, ↓reduceIte, Nat.reduceEqDiff]; done) | (simp [upd_app]; done) | (simp [upd_app]; omega)) (by simp [hm]) (by simp [hm, strA_length]; omega) (by simp [hm]) (by simp [hm]) (by omega) (by simp [hm, strA_take, ← hn']) (by rw [hsp]; simp [hm, strA_drop, ← hn']) (by simp [hm]) (strA_pure _) (strA_pure _)
  | true =>
    have hn0 := hne rfl
    simp (disch := omega) only [go_sem, ↓k_cond, ↓x_idx, ↓k_block, Nat.reduceEqDiff, ↓reduceIte, reduceCtorEq, if_pos, if_neg, decide_eq_true, decide_eq_false, beqT, beqF, bneT, bneF, wrapI, wrapU32, wrapU64, wrapU8, nc_add, nc_addL, nc_addR, nc_mul, nc_mulL, nc_mulR, nc_div, nc_divL, nc_mod, nc_modL, nc_1, nc_sub1, natA_at, natA_put, eatH_one, Int.toNat_natCast, Option.map_some, shr32, shl32, List.getD_cons_zero, List.getD_cons_succ, List.length_set, List.set_cons_zero, List.set_cons_succ, strA_length, hn']
    refine x_callP hroom cl_room (by simp [evA, upd_app]) (by simp [AV.pure, AV.pureL]) rfl ?_
    simp (disch := omega) only [go_sem, ↓k_cond, ↓x_idx, ↓k_block, Nat.reduceEqDiff, ↓reduceIte, reduceCtorEq, if_pos, if_neg, decide_eq_true, decide_eq_false, beqT, beqF, bneT, bneF, wrapI, wrapU32, wrapU64, wrapU8, nc_add, nc_addL, nc_addR, nc_mul, nc_mulL, nc_mulR, nc_div, nc_divL, nc_mod, nc_modL, nc_1, nc_sub1, natA_at, natA_put, eatH_one, Int.toNat_natCast, Option.map_some, shr32, shl32, List.getD_cons_zero, List.getD_cons_succ, List.length_set, List.set_cons_zero, List.set_cons_succ, strA_length, hn', reach, strA_rep]
    refine k_loop R (fun i => n - i) 0 (by rw [hR]; exact ⟨(by first | (simp only [upd_app, ↓reduceIte, Nat.reduceEqDiff]; done) | (simp [upd_app]; done) | (simp [upd_app]; omega)), (by first | (simp only [upd_app, ↓reduceIte, Nat.reduceEqDiff]; done) | (simp [upd_app]; done) | (simp [upd_app]; omega)), (by first | (simp only [upd_app, ↓reduceIte, Nat.reduceEqDiff]; done) | (simp [upd_app]; done) | (simp [upd_app]; omega)), by omega, by simp [upd_app]⟩) ?_
    rintro i ⟨fr, h, nx⟩ hst J hJ
    rw [hR] at hst
    obtain ⟨g0, g5, g6, hi, hm⟩ := hst
    simp only at g0 g5 g6 hm
    by_cases hin : i < n
    · obtain ⟨x, hx⟩ := get_some (xs := xs) (i := i) (by omega)
      have hal : (xs.take i ++ List.replicate (n + r - i) ([] : List UInt8)).length = n + r := by simp; omega
      have hti : (xs.take i).length = i := by simp; omega
      have hset : (xs.take i ++ List.replicate (n + r - i) ([] : List UInt8)).set i x = xs.take (i + 1) ++ List.replicate (n + r - (i + 1)) [] := by
        have h1 := rep_set (a := xs.take i) (k := n + r - (i + 1)) (z := ([] : List UInt8)) (v := x)
        rw [hti, show n + r - (i + 1) + 1 = n + r - i by omega] at h1
        rw [h1, List.take_add_one, hx]; rfl
      have hget : (xs.take i ++ List.replicate (n + r - i) ([] : List UInt8))[i]? = some [] := by
        rw [List.getElem?_append_right (by omega), hti, Nat.sub_self, List.getElem?_replicate, if_pos (by omega)]
      simp (disch := omega) only [go_sem, ↓k_cond, ↓x_idx, ↓k_block, Nat.reduceEqDiff, ↓reduceIte, reduceCtorEq, if_pos, if_neg, decide_eq_true, decide_eq_false, beqT, beqF, bneT, bneF, wrapI, wrapU32, wrapU64, wrapU8, nc_add, nc_addL, nc_addR, nc_mul, nc_mulL, nc_mulR, nc_div, nc_divL, nc_mod, nc_modL, nc_1, nc_sub1, natA_at, natA_put, eatH_one, Int.toNat_natCast, Option.map_some, shr32, shl32, List.getD_cons_zero, List.getD_cons_succ, List.length_set, List.set_cons_zero, List.set_cons_succ, g0, g5, g6, strA_length, strA_at, hn', hx, hm, hal, strA_put, hset, hget]
      exact hJ (i + 1) _ (by rw [hR]; exact ⟨(by first | (simp only [upd_app, ↓reduceIte, Nat.reduceEqDiff, g0]; done) | (simp [upd_app, g0]; done) | (simp [upd_app, g0]; omega)), (by first | (simp only [upd_app, ↓reduceIte, Nat.reduceEqDiff, g5]; done) | (simp [upd_app, g5]; done) | (simp [upd_app, g5]; omega)), (by first | (simp only [upd_app, ↓reduceIte, Nat.reduceEqDiff]; done) | (simp [upd_app]; done) | (simp [upd_app]; omega)), hin, by simp [upd_app]⟩) (by omega)
    · obtain rfl : i = n := by omega
      rw [List.take_of_length_le (by omega), show i + r - i = r by omega] at hm
      clear hJ hR
      simp (disch := omega) only [go_sem, ↓k_cond, ↓x_idx, ↓k_block, Nat.reduceEqDiff, ↓reduceIte, reduceCtorEq, if_pos, if_neg, decide_eq_true, decide_eq_false, beqT, beqF, bneT, bneF, wrapI, wrapU32, wrapU64, wrapU8, nc_add, nc_addL, nc_addR, nc_mul, nc_mulL, nc_mulR, nc_div, nc_divL, nc_mod, nc_modL, nc_1, nc_sub1, natA_at, natA_put, eatH_one, Int.toNat_natCast, Option.map_some, shr32, shl32, List.getD_cons_zero, List.getD_cons_succ, List.length_set, List.set_cons_zero, List.set_cons_succ, g0, g5, g6, strA_length, hn']
      refine k_loop R2 (fun i => r - i) 0 (by rw [hR2]; exact ⟨(by first | (simp only [upd_app, ↓reduceIte, Nat.reduceEqDiff, g0]; done) | (simp [upd_app, g0]; done) | (simp [upd_app, g0]; omega)), (by first | (simp only [upd_app, ↓reduceIte, Nat.reduceEqDiff, g5]; done) | (simp [upd_app, g5]; done) | (simp [upd_app, g5]; omega)), (by first | (simp only [upd_app, ↓reduceIte, Nat.reduceEqDiff]; done) | (simp [upd_app]; done) | (simp [upd_app]; omega)), by omega, by simpa using hm⟩) ?_
      clear g0 g5 g6 hm
      rintro j ⟨fr, h, nx⟩ hst J hJ
      rw [hR2] at hst
      obtain ⟨g0, g5, g7, hj, hm⟩ := hst
      simp only at g0 g5 g7 hm
      have hal : ((xs ++ List.replicate j spareT) ++ List.replicate (r - j) ([] : List UInt8)).length = i + r := by simp; omega
      by_cases hjr : j < r
      · have hti : (xs ++ List.replicate j spareT).length = i + j := by simp; omega
        have hset : ((xs ++ List.replicate j spareT) ++ List.replicate (r - j) ([] : List UInt8)).set (i + j) [126, 115, 112, 97, 114, 101, 126] = (xs ++ List.replicate (j + 1) spareT) ++ List.replicate (r - (j + 1)) [] := by
          have h1 := rep_set (a := xs ++ List.replicate j spareT) (k := r - (j + 1)) (z := ([] : List UInt8)) (v := spareT)
          rw [hti, show r - (j + 1) + 1 = r - j by omega] at h1
          rw [show ([126, 115, 112, 97, 114, 101, 126] : List UInt8) = spareT from rfl, h1, List.replicate_succ', List.append_assoc xs]
        have hget : ((xs ++ List.replicate j spareT) ++ List.replicate (r - j) ([] : List UInt8))[i + j]? = some [] := by
          rw [List.getElem?_append_right (by omega), hti, Nat.sub_self, List.getElem?_replicate, if_pos (by omega)]
        simp (disch := omega) only [go_sem, ↓k_cond, ↓x_idx, ↓k_block, Nat.reduceEqDiff, ↓reduceIte, reduceCtorEq, if_pos, if_neg, decide_eq_true, decide_eq_false, beqT, beqF, bneT, bneF, wrapI, wrapU32, wrapU64, wrapU8, nc_add, nc_addL, nc_addR, nc_mul, nc_mulL, nc_mulR, nc_div, nc_divL, nc_mod, nc_modL, nc_1, nc_sub1, natA_at, natA_put, eatH_one, Int.toNat_natCast, Option.map_some, shr32, shl32, List.getD_cons_zero, List.getD_cons_succ, List.length_set, List.set_cons_zero, List.set_cons_succ, g0, g5, g7, strA_length, strA_at, hm, hal, strA_put, hset, hget]
        exact hJ (j + 1) _ (by rw [hR2]; exact ⟨(by first | (simp only [upd_app, ↓reduceIte, Nat.reduceEqDiff, g0]; done) | (simp [upd_app, g0]; done) | (simp [upd_app, g0]; omega)), (by first | (simp only [upd_app, ↓reduceIte, Nat.reduceEqDiff, g5]; done) | (simp [upd_app, g5]; done) | (simp [upd_app, g5]; omega)), (by first | (simp only [upd_app, ↓reduceIte, Nat.reduceEqDiff]; done) | (simp [upd_app]; done) | (simp [upd_app]; omega)), hjr, by simp [upd_app]⟩) (by omega)
      · obtain rfl : j = r := by omega
        rw [Nat.sub_self, List.replicate_zero, List.append_nil] at hm hal
        simp (disch := omega) only [go_sem, ↓k_cond, ↓x_idx, ↓k_block, Nat.reduceEqDiff, ↓reduceIte, reduceCtorEq, if_pos, if_neg, decide_eq_true, decide_eq_false, beqT, beqF, bneT, bneF, wrapI, wrapU32, wrapU64, wrapU8, nc_add, nc_addL, nc_addR, nc_mul, nc_mulL, nc_mulR, nc_div, nc_divL, nc_mod, nc_modL, nc_1, nc_sub1, natA_at, natA_put, eatH_one, Int.toNat_natCast, Option.map_some, shr32, shl32, List.getD_cons_zero, List.getD_cons_succ, List.length_set, List.set_cons_zero, List.set_cons_succ, g0, g5, g7, strA_length, hm, hal, hn']
        rw [← hQ]
        exact post_own (id := 0) (n := i + j) (len := i) (.inl rfl) rfl (by first | (simp only [upd_app, ↓reduceIte, Nat.reduceEqDiff]; done) | (simp [upd_app]; done) | (simp [upd_app]; omega)) (by simp [hm]) (by simp [hm, strA_length]; omega) (by simp [hm]) (by simp [hm]) (by omega) (by simp [hm, strA_take, ← hn']) (by rw [hsp]; simp [hm, strA_drop, ← hn']) (by simp [hm]) (strA_pure _) (strA_pure _)
theorem l_toNil : CallOk Tryd.prog 6 [.sl 9 (strA []) [] false, .bool true] .nil [] := by
  (refine callOk_of_wpc (W := fun _ => false) false hm' Tryd.func6 rfl (by kernel_rfl) (Nat.le_of_ble_eq_true rfl) (go_start ?_); generalize hQ : Post Tryd.prog Tryd.f6 _ _ _ _ _ = Q; simp only [stIn, matL, matA, st00])
  simp (disch := omega) only [go_sem, ↓k_cond, ↓x_idx, ↓k_block, Nat.reduceEqDiff, ↓reduceIte, reduceCtorEq, if_pos, if_neg, decide_eq_true, decide_eq_false, beqT, beqF, bneT, bneF, wrapI, wrapU32, wrapU64, wrapU8, nc_add, nc_addL, nc_addR, nc_mul, nc_mulL, nc_mulR, nc_div, nc_divL, nc_mod, nc_modL, nc_1, nc_sub1, natA_at, natA_put, eatH_one, Int.toNat_natCast, Option.map_some, shr32, shl32, List.getD_cons_zero, List.getD_cons_succ, List.length_set, List.set_cons_zero, List.set_cons_succ, strA_length, List.length_nil]
  rw [← hQ]
  exact post_one (.inl rfl) rfl (by first | (simp only [upd_app, ↓reduceIte, Nat.reduceEqDiff]; done) | (simp [upd_app]; done) | (simp [upd_app]; omega)) rfl

theorem snap_two {st : St} {a b x y : AV} {i j : List Nat} (h1 : snapA st 8 a = some (x, i)) (h2 : snapA st 8 b = some (y, j)) : snapL (snapA st 8) [a, b] = some ([x, y], i ++ j) := by simp [snapL, h1, h2]
theorem own_two {st : St} {a b x y : AV} {i j : List Nat} (h1 : ownA st 8 a = some (x, i)) (h2 : ownA st 8 b = some (y, j)) : snapL (ownA st 8) [a, b] = some ([x, y], i ++ j) := by simp [snapL, h1, h2]
theorem snap_strs {st : St} {id n len : Nat} {xs : List (List UInt8)} {ex gr : Bool} (h : st.h id = ⟨9, strA xs, ex, gr, true⟩) (hn : xs.length = n) (hl : len ≤ n) : snapA st 8 (.ref id n 0 len) = some (.sl 9 (strA (xs.take len)) [] false, [id]) :=
  snap_frozen (d := 7) (by rw [h]) (by rw [h, strA_length, hn]) (by rw [h]) (by omega) (by rw [h, List.drop_zero, strA_take]) (strA_pure _)
theorem own_strs {st : St} {id n len : Nat} {xs sp : List (List UInt8)} (h : st.h id = ⟨9, strA (xs ++ sp), true, true, true⟩) (hn : xs.length + sp.length = n) (hl : xs.length = len) : ownA st 8 (.ref id n 0 len) = some (.own 9 (strA xs) (strA sp) true, [id]) := by
  rw [ownA_ref, if_pos ⟨by rw [h], by rw [h, strA_length, List.length_append, hn], rfl, by omega, by rw [h]⟩]
  rw [h]
  simp only [if_true]
  rw [strA_take, strA_drop, ← hl, List.take_left', List.drop_left', snapLo_pure (strA_pure _), snapLo_pure (strA_pure _)]
  · simp
  · rfl
  · rfl

theorem l_intact (xs : List (List UInt8)) (hn : xs.length ≤ 1000000) : CallOk Tryd.prog 8 [.own 9 (strA xs) (strA (spareL xs.length)) true, .own 9 (strA xs) (strA (spareL xs.length)) true] (.bool true) [] := by
  obtain ⟨n, hn'⟩ : ∃ n, xs.length = n := ⟨_, rfl⟩
  rw [hn'] at hn ⊢
  obtain ⟨r, hr⟩ : ∃ r, roomB n = r := ⟨_, rfl⟩
  have hrl := room_le n
  rw [hr] at hrl
  have hsp : (spareL n).length = r := by rw [spareL, hr]; simp
  obtain ⟨sp, hsp'⟩ : ∃ sp, spareL n = sp := ⟨_, rfl⟩
  rw [hsp'] at hsp ⊢
  have hroom := l_room n (by omega)
  rw [hr] at hroom
  have heq := l_eq (xs ++ sp) (xs ++ sp) (by simp; omega) (by simp; omega)
  rw [decide_eq_true rfl] at heq
  have hall : (xs ++ sp).length = n + r := by simp; omega
  (refine callOk_of_wpc (W := fun _ => false) false hm' Tryd.func8 rfl (by kernel_rfl) (Nat.le_of_ble_eq_true rfl) (go_start ?_); generalize hQ : Post Tryd.prog Tryd.f8 _ _ _ _ _ = Q; simp only [stIn, matL, matA, st00, matL_pure _ _ _ (strA_pure _), strA_append, strA_length, hn', hsp, St.new])
  simp (disch := omega) only [go_sem, ↓k_cond, ↓x_idx, ↓k_block, Nat.reduceEqDiff, ↓reduceIte, reduceCtorEq, if_pos, if_neg, decide_eq_true, decide_eq_false, beqT, beqF, bneT, bneF, wrapI, wrapU32, wrapU64, wrapU8, nc_add, nc_addL, nc_addR, nc_mul, nc_mulL, nc_mulR, nc_div, nc_divL, nc_mod, nc_modL, nc_1, nc_sub1, natA_at, natA_put, eatH_one, Int.toNat_natCast, Option.map_some, shr32, shl32, List.getD_cons_zero, List.getD_cons_succ, List.length_set, List.set_cons_zero, List.set_cons_succ, strA_length, hn', hall]
  refine x_callP hroom cl_room (by simp [evA, upd_app]) (by simp [AV.pure, AV.pureL]) rfl ?_
  simp (disch := omega) only [go_sem, ↓k_cond, ↓x_idx, ↓k_block, Nat.reduceEqDiff, ↓reduceIte, reduceCtorEq, if_pos, if_neg, decide_eq_true, decide_eq_false, beqT, beqF, bneT, bneF, wrapI, wrapU32, wrapU64, wrapU8, nc_add, nc_addL, nc_addR, nc_mul, nc_mulL, nc_mulR, nc_div, nc_divL, nc_mod, nc_modL, nc_1, nc_sub1, natA_at, natA_put, eatH_one, Int.toNat_natCast, Option.map_some, shr32, shl32, List.getD_cons_zero, List.getD_cons_succ, List.length_set, List.set_cons_zero, List.set_cons_succ, strA_length, hn', hall]
  refine x_callS heq cl_eq (by simp [evA, upd_app]) (snap_two (snap_strs (ex := true) (gr := false) (id := 0) (n := n + r) (len := n + r) (xs := xs ++ sp) (by simp [upd_app]) hall (Nat.le_refl _)) (snap_strs (ex := true) (gr := false) (id := 1) (n := n + r) (len := n + r) (xs := xs ++ sp) (by simp [upd_app]) hall (Nat.le_refl _)) |>.trans (by rw [List.take_of_length_le (by omega)])) rfl rfl ?_
  simp (disch := omega) only [go_sem, ↓k_cond, ↓x_idx, ↓k_block, Nat.reduceEqDiff, ↓reduceIte, reduceCtorEq, if_pos, if_neg, decide_eq_true, decide_eq_false, beqT, beqF, bneT, bneF, wrapI, wrapU32, wrapU64, wrapU8, nc_add, nc_addL, nc_addR, nc_mul, nc_mulL, nc_mulR, nc_div, nc_divL, nc_mod, nc_modL, nc_1, nc_sub1, natA_at, natA_put, eatH_one, Int.toNat_natCast, Option.map_some, shr32, shl32, List.getD_cons_zero, List.getD_cons_succ, List.length_set, List.set_cons_zero, List.set_cons_succ]
  rw [← hQ]
  exact post_one (.inl rfl) rfl (by first | (simp only [upd_app, ↓reduceIte, Nat.reduceEqDiff]; done) | (simp [upd_app]; done) | (simp [upd_app]; omega)) rfl

theorem law_IsSeries (xs : List (List UInt8)) (hn : xs.length < 4611686018427387904) (hs : ∀ x ∈ xs, x.length < 4611686018427387904) : CallOk Tryd.prog 3 [.sl 9 (strA xs) [] false] (.bool true) [] := by
  have hsz := l_sz xs 1000000 (by omega) (by omega) hn hs
  by_cases hneg : szS xs 1000000 < 0
  · (refine callOk_of_wpc (W := fun g => g == 6 || g == 8) false hm' Tryd.func3 rfl (by kernel_rfl) (Nat.le_of_ble_eq_true rfl) (go_start ?_); generalize hQ : Post Tryd.prog Tryd.f3 _ _ _ _ _ = Q; simp only [stIn, matL, matA, st00])
    simp (disch := omega) only [go_sem, ↓k_cond, ↓x_idx, ↓k_block, Nat.reduceEqDiff, ↓reduceIte, reduceCtorEq, if_pos, if_neg, decide_eq_true, decide_eq_false, beqT, beqF, bneT, bneF, wrapI, wrapU32, wrapU64, wrapU8, nc_add, nc_addL, nc_addR, nc_mul, nc_mulL, nc_mulR, nc_div, nc_divL, nc_mod, nc_modL, nc_1, nc_sub1, natA_at, natA_put, eatH_one, Int.toNat_natCast, Option.map_some, shr32, shl32, List.getD_cons_zero, List.getD_cons_succ, List.length_set, List.set_cons_zero, List.set_cons_succ]
    refine x_callP (hsz) cl_sz (by simp [evA, upd_app, ofVal, ofCell]) (by simp [AV.pure, AV.pureL, natA_pure, natI_pure, natS_pure]) (by simp [AV.pure, AV.pureL, natA_pure, natI_pure, natS_pure]) ?_
    simp (disch := omega) only [go_sem, ↓k_cond, ↓x_idx, ↓k_block, Nat.reduceEqDiff, ↓reduceIte, reduceCtorEq, if_pos, if_neg, decide_eq_true, decide_eq_false, beqT, beqF, bneT, bneF, wrapI, wrapU32, wrapU64, wrapU8, nc_add, nc_addL, nc_addR, nc_mul, nc_mulL, nc_mulR, nc_div, nc_divL, nc_mod, nc_modL, nc_1, nc_sub1, natA_at, natA_put, eatH_one, Int.toNat_natCast, Option.map_some, shr32, shl32, List.getD_cons_zero, List.getD_cons_succ, List.length_set, List.set_cons_zero, List.set_cons_succ]
    rw [← hQ]
    exact post_one (.inl rfl) rfl (by first | (simp only [upd_app, ↓reduceIte, Nat.reduceEqDiff]; done) | (simp [upd_app]; done) | (simp [upd_app]; omega)) rfl
  obtain ⟨b1, b2, b3⟩ := szS_bd (by omega) (show 0 ≤ szS xs 1000000 by omega)
  have hl : xs.length ≤ 1000000 := by omega
  obtain ⟨z, hz⟩ : ∃ z, szS xs 1000000 = z := ⟨_, rfl⟩
  rw [hz] at hsz hneg b3
  have hT := l_to xs false (.inl rfl) hl
  have hI := i_IsSeries xs (by omega) (fun x hx => by have := b2 x hx; omega)
  have hS := s_IsSeries xs (by omega) (fun x hx => by have := b2 x hx; omega)
  have hIn := l_intact xs hl
  obtain ⟨b, hb⟩ : ∃ b, (serQ xs).isSome = b := ⟨_, rfl⟩
  rw [hb] at hI hS
  have hbb : (b == b) = true := by simp
  obtain ⟨sp, hsp⟩ : ∃ sp, spareL xs.length = sp := ⟨_, rfl⟩
  rw [hsp] at hT hIn
  have hall : (xs ++ sp).length = xs.length + sp.length := by simp
  have htk : (xs ++ sp).take xs.length = xs := by simp
  have sn : ∀ (st : St) (id : Nat), st.h id = ⟨9, strA (xs ++ sp), true, true, true⟩ → snapL (snapA st 8) [.ref id (xs.length + sp.length) 0 xs.length] = some ([.sl 9 (strA xs) [] false], [id]) := by
    intro st id h
    have := snap_strs (st := st) (id := id) (n := xs.length + sp.length) (len := xs.length) (xs := xs ++ sp) h hall (by omega)
    rw [htk] at this
    simp [snapL, this]
  (refine callOk_of_wpc (W := fun g => g == 6 || g == 8) false hm' Tryd.func3 rfl (by kernel_rfl) (Nat.le_of_ble_eq_true rfl) (go_start ?_); generalize hQ : Post Tryd.prog Tryd.f3 _ _ _ _ _ = Q; simp only [stIn, matL, matA, st00])
  simp (disch := omega) only [go_sem, ↓k_cond, ↓x_idx, ↓k_block, Nat.reduceEqDiff, ↓reduceIte, reduceCtorEq, if_pos, if_neg, decide_eq_true, decide_eq_false, beqT, beqF, bneT, bneF, wrapI, wrapU32, wrapU64, wrapU8, nc_add, nc_addL, nc_addR, nc_mul, nc_mulL, nc_mulR, nc_div, nc_divL, nc_mod, nc_modL, nc_1, nc_sub1, natA_at, natA_put, eatH_one, Int.toNat_natCast, Option.map_some, shr32, shl32, List.getD_cons_zero, List.getD_cons_succ, List.length_set, List.set_cons_zero, List.set_cons_succ]
  refine x_callP (hsz) cl_sz (by simp [evA, upd_app, ofVal, ofCell]) (by simp [AV.pure, AV.pureL, natA_pure, natI_pure, natS_pure]) (by simp [AV.pure, AV.pureL, natA_pure, natI_pure, natS_pure]) ?_
  simp (disch := omega) only [go_sem, ↓k_cond, ↓x_idx, ↓k_block, Nat.reduceEqDiff, ↓reduceIte, reduceCtorEq, if_pos, if_neg, decide_eq_true, decide_eq_false, beqT, beqF, bneT, bneF, wrapI, wrapU32, wrapU64, wrapU8, nc_add, nc_addL, nc_addR, nc_mul, nc_mulL, nc_mulR, nc_div, nc_divL, nc_mod, nc_modL, nc_1, nc_sub1, natA_at, natA_put, eatH_one, Int.toNat_natCast, Option.map_some, shr32, shl32, List.getD_cons_zero, List.getD_cons_succ, List.length_set, List.set_cons_zero, List.set_cons_succ]
  refine x_callO hT cl_to (by simp [evA, upd_app, ofVal, ofCell]) (by simp [AV.pure, AV.pureL]) (strA_pure _) (strA_pure _) rfl ?_
  simp only [strA_length, strA_append]
  refine x_callS hS cs_IsSeries (by simp [evA, upd_app]) (sn _ 0 (by simp [upd_app])) rfl rfl ?_
  simp (disch := omega) only [go_sem, ↓k_cond, ↓x_idx, ↓k_block, Nat.reduceEqDiff, ↓reduceIte, reduceCtorEq, if_pos, if_neg, decide_eq_true, decide_eq_false, beqT, beqF, bneT, bneF, wrapI, wrapU32, wrapU64, wrapU8, nc_add, nc_addL, nc_addR, nc_mul, nc_mulL, nc_mulR, nc_div, nc_divL, nc_mod, nc_modL, nc_1, nc_sub1, natA_at, natA_put, eatH_one, Int.toNat_natCast, Option.map_some, shr32, shl32, List.getD_cons_zero, List.getD_cons_succ, List.length_set, List.set_cons_zero, List.set_cons_succ]
  refine x_callO hT cl_to (by simp [evA, upd_app, ofVal, ofCell]) (by simp [AV.pure, AV.pureL]) (strA_pure _) (strA_pure _) rfl ?_
  simp only [strA_length, strA_append]
  simp (disch := omega) only [go_sem, ↓k_cond, ↓x_idx, ↓k_block, Nat.reduceEqDiff, ↓reduceIte, reduceCtorEq, if_pos, if_neg, decide_eq_true, decide_eq_false, beqT, beqF, bneT, bneF, wrapI, wrapU32, wrapU64, wrapU8, nc_add, nc_addL, nc_addR, nc_mul, nc_mulL, nc_mulR, nc_div, nc_divL, nc_mod, nc_modL, nc_1, nc_sub1, natA_at, natA_put, eatH_one, Int.toNat_natCast, Option.map_some, shr32, shl32, List.getD_cons_zero, List.getD_cons_succ, List.length_set, List.set_cons_zero, List.set_cons_succ]
  refine x_callS hI ci_IsSeries (by simp [evA, upd_app]) (sn _ 1 (by simp [upd_app])) rfl rfl ?_
  simp (disch := omega) only [go_sem, ↓k_cond, ↓x_idx, ↓k_block, Nat.reduceEqDiff, ↓reduceIte, reduceCtorEq, if_pos, if_neg, decide_eq_true, decide_eq_false, beqT, beqF, bneT, bneF, wrapI, wrapU32, wrapU64, wrapU8, nc_add, nc_addL, nc_addR, nc_mul, nc_mulL, nc_mulR, nc_div, nc_divL, nc_mod, nc_modL, nc_1, nc_sub1, natA_at, natA_put, eatH_one, Int.toNat_natCast, Option.map_some, shr32, shl32, List.getD_cons_zero, List.getD_cons_succ, List.length_set, List.set_cons_zero, List.set_cons_succ, hbb]
  refine x_callO hT cl_to (by simp [evA, upd_app, ofVal, ofCell]) (by simp [AV.pure, AV.pureL]) (strA_pure _) (strA_pure _) rfl ?_
  simp only [strA_length, strA_append]
  refine x_callE hIn cl_intact (by simp [evA, upd_app]) (own_two (own_strs (st := ⟨_, _, _⟩) (id := 1) (xs := xs) (sp := sp) (by simp [upd_app]) rfl rfl) (own_strs (st := ⟨_, _, _⟩) (id := 2) (xs := xs) (sp := sp) (by simp [upd_app]) rfl rfl)) (by decide) rfl (by simp) ?_
  simp (disch := omega) only [go_sem, ↓k_cond, ↓x_idx, ↓k_block, Nat.reduceEqDiff, ↓reduceIte, reduceCtorEq, if_pos, if_neg, decide_eq_true, decide_eq_false, beqT, beqF, bneT, bneF, wrapI, wrapU32, wrapU64, wrapU8, nc_add, nc_addL, nc_addR, nc_mul, nc_mulL, nc_mulR, nc_div, nc_divL, nc_mod, nc_modL, nc_1, nc_sub1, natA_at, natA_put, eatH_one, Int.toNat_natCast, Option.map_some, shr32, shl32, List.getD_cons_zero, List.getD_cons_succ, List.length_set, List.set_cons_zero, List.set_cons_succ]
  by_cases hnil : xs = []
  · subst hnil
    refine x_callP l_toNil cl_to (by simp [evA, upd_app, ofVal, ofCell]) (by simp [AV.pure, AV.pureL]) rfl ?_
    refine x_callP (hI.args (SubL.cons sub_nil .nil)) ci_IsSeries (by simp [evA, upd_app]) rfl rfl ?_
    simp (disch := omega) only [go_sem, ↓k_cond, ↓x_idx, ↓k_block, Nat.reduceEqDiff, ↓reduceIte, reduceCtorEq, if_pos, if_neg, decide_eq_true, decide_eq_false, beqT, beqF, bneT, bneF, wrapI, wrapU32, wrapU64, wrapU8, nc_add, nc_addL, nc_addR, nc_mul, nc_mulL, nc_mulR, nc_div, nc_divL, nc_mod, nc_modL, nc_1, nc_sub1, natA_at, natA_put, eatH_one, Int.toNat_natCast, Option.map_some, shr32, shl32, List.getD_cons_zero, List.getD_cons_succ, List.length_set, List.set_cons_zero, List.set_cons_succ, hbb]
    rw [← hQ]
    exact post_one (.inl rfl) rfl (by first | (simp only [upd_app, ↓reduceIte, Nat.reduceEqDiff]; done) | (simp [upd_app]; done) | (simp [upd_app]; omega)) rfl
  · have hT2 := l_to xs true (.inr hnil) hl
    rw [hsp] at hT2
    refine x_callO hT2 cl_to (by simp [evA, upd_app, ofVal, ofCell]) (by simp [AV.pure, AV.pureL]) (strA_pure _) (strA_pure _) rfl ?_
    simp only [strA_length, strA_append]
    refine x_callS hI ci_IsSeries (by simp [evA, upd_app]) (sn _ 3 (by simp [upd_app])) rfl rfl ?_
    simp (disch := omega) only [go_sem, ↓k_cond, ↓x_idx, ↓k_block, Nat.reduceEqDiff, ↓reduceIte, reduceCtorEq, if_pos, if_neg, decide_eq_true, decide_eq_false, beqT, beqF, bneT, bneF, wrapI, wrapU32, wrapU64, wrapU8, nc_add, nc_addL, nc_addR, nc_mul, nc_mulL, nc_mulR, nc_div, nc_divL, nc_mod, nc_modL, nc_1, nc_sub1, natA_at, natA_put, eatH_one, Int.toNat_natCast, Option.map_some, shr32, shl32, List.getD_cons_zero, List.getD_cons_succ, List.length_set, List.set_cons_zero, List.set_cons_succ, hbb]
    rw [← hQ]
    exact post_one (.inl rfl) rfl (by first | (simp only [upd_app, ↓reduceIte, Nat.reduceEqDiff]; done) | (simp [upd_app]; done) | (simp [upd_app]; omega)) rfl
end Go.Proofs.YtogabejpbdmnnaaDoor

/- The law of IsSeries: the row and its tied card, out of the contract of the law. -/
set_option linter.unusedSimpArgs false
set_option linter.unusedVariables false
namespace Go.Proofs.YtogabejpbdmnnaaDoor
open Go Go.ChangeShapes Go.WideShapes Go.ChangeAt Go.RowKit

/-- A law's argument, a list of texts, in the words of the contracts. -/
theorem rep_strs {w : World} {a : Option Addr} {len cap : Nat} {ss : List ByteArray} (h : (a = none ∧ len = 0 ∧ cap = 0) ∨ ∃ x, a = some x ∧ len ≤ cap ∧ len ≤ ss.length ∧ ∀ i, i < ss.length → w.cell? (x.add i) = some (.string (ss.getD i ByteArray.empty))) :
    ownRL Tryd.prog (bare w (fun b => ∃ x, a = some x ∧ len ≠ 0 ∧ b = x.block)) [.sl 9 (strA ((ss.take len).map (·.data.toList))) [] false] [.slice a len cap] [] ∧ ∀ x, a = some x → len ≠ 0 → x.block < w.heap.size := by
  have hlen : (strA ((ss.take len).map (·.data.toList))).length = len := by
    rcases h with ⟨_, h, _⟩ | ⟨x, _, _, h, _⟩ <;> simp [strA] <;> omega
  have hcap : len ≤ cap := by rcases h with ⟨_, h, h'⟩ | ⟨x, _, h, _⟩ <;> omega
  have blk : ∀ x, a = some x → len ≠ 0 → x.spot = none ∧ ∃ c e f, w.heap[x.block]? = some (.cells c e f) ∧ ∀ i, i < ss.length → c[x.off + i]? = some (.string (ss.getD i ByteArray.empty)) := by
    intro x hx hne
    rcases h with ⟨h, _⟩ | ⟨y, hy, _, hl, hc⟩
    · rw [h] at hx; cases hx
    · obtain rfl : y = x := by rw [hy] at hx; simpa using hx
      have h0 := hc 0 (by omega)
      simp only [Addr.add, ↓reduceIte, World.cell?] at h0
      split at h0
      · rename_i c e f hb
        split at h0
        · cases h0
        · rename_i hs
          refine ⟨by simpa using hs, c, e, f, hb, fun i hi => ?_⟩
          by_cases hi0 : i = 0
          · subst hi0; simpa using h0
          · have := hc i hi
            simp only [Addr.add, if_neg hi0, World.cell?, hb] at this
            simpa using this
      · cases h0
  refine ⟨?_, fun x hx hne => ?_⟩
  · simp only [ownRL, ownR]
    refine ⟨_, _, [], [], rfl, rfl, ⟨rfl, by simp [AV.pure, AV.pureL, strA_pure], ?_⟩, rfl, rfl⟩
    simp only [rep]
    refine ⟨a, cap, by rw [hlen], by rw [hlen]; simpa using hcap, by simp, ?_, (ss.take len).map .string, [], ?_, by simp [repL], fun hne => ?_⟩
    · intro y hy
      simp only [List.append_nil, strA, List.mem_map] at hy
      obtain ⟨s, _, rfl⟩ := hy
      simp [AV.el, AV.cells, AV.one, s_string]
    · generalize ss.take len = l
      induction l with
      | nil => simp [strA, repL]
      | cons s l ih => simp only [List.map_cons, strA, repL]; exact ⟨_, _, rfl, by simp [rep], by simpa [strA] using ih⟩
    · have hne' : len ≠ 0 := by rw [hlen] at hne; simpa using hne
      rcases h with ⟨_, h, _⟩ | ⟨x, hx, _, hl, _⟩
      · exact absurd h hne'
      obtain ⟨hs, c, e, f, hb, hc⟩ := blk x hx hne'
      refine ⟨x.block, x.off, c, (e, f), by rw [hx]; cases x; simp_all, ⟨x, hx, hne', rfl⟩, hb, ?_⟩
      intro i v hv
      simp only [List.append_nil, List.getElem?_map, Option.map_eq_some_iff, List.getElem?_take] at hv
      obtain ⟨s, hs', rfl⟩ := hv
      split at hs'
      · have hi : i < ss.length := by omega
        have := hc i hi
        rw [List.getD, hs', Option.getD_some] at this
        refine ⟨by simp [Value.cells, s_string], fun j u hj => ?_⟩
        have hj0 : j = 0 ∧ u = .string s := by
          cases j <;> simp_all [Value.cells]
        obtain ⟨rfl, rfl⟩ := hj0
        simp only [s_string, Nat.mul_one, Nat.add_zero]
        exact this
      · cases hs'
  · obtain ⟨_, c, e, f, hb, _⟩ := blk x hx hne
    exact lt_of_heap hb

theorem walk (w : World) (a : Option Addr) (len cap : Nat) (ss : List ByteArray) (h : (a = none ∧ len = 0 ∧ cap = 0) ∨ ∃ x, a = some x ∧ len ≤ cap ∧ len ≤ ss.length ∧ ∀ i, i < ss.length → w.cell? (x.add i) = some (.string (ss.getD i ByteArray.empty)))
    (hl : len < 4611686018427387904) (hs : ∀ s ∈ ss.take len, s.size < 4611686018427387904) :
    Calls Tryd.prog 3 #[.slice a len cap] w fun e w' => e = .returned (.bool true) ∧ Below w.heap.size w w' := by
  obtain ⟨h1, h2⟩ := rep_strs h
  have hc := law_IsSeries ((ss.take len).map (·.data.toList)) (by simp; omega) (by
    intro x hx
    obtain ⟨s, hm, rfl⟩ := List.mem_map.1 hx
    have := hs s hm
    simpa using this) w _ _ _ (by rintro b ⟨x, hx, hne, rfl⟩; exact h2 x hx hne) h1 (by simp)
  refine hc.mono fun e w' hp => ?_
  obtain ⟨v, I', L', rfl, q1, _, _, _, q5, _⟩ := hp
  have : v = .bool true := by simp only [ownR, rep] at q5; exact q5.2
  exact ⟨by rw [this], q1.os, q1.tape, q1.output, q1.size, fun k hk => q1.same k hk (by simp)⟩
end Go.Proofs.YtogabejpbdmnnaaDoor

/- The law of IsSeries: its row, and the tied card. -/
set_option linter.unusedSimpArgs false
set_option linter.unusedVariables false
namespace Go.Proofs.YtogabejpbdmnnaaDoor
open Go Go.ChangeShapes Go.WideShapes Go.ChangeAt Go.RowKit

theorem own : ownKnob Tryd.prog.godebug = none := by kernel_rfl
theorem laidOut : laidOutB Tryd.prog = true := by kernel_rfl
abbrev laidX : List (String × DataW Unit) := Rows.fnExactIsSeriesRow.laid

set_option maxRecDepth 100000 in
/-- The door's own heap meets the condition: three closed facts. -/
theorem door_met (os : Os) (args : Array Value) : laidMetH Tryd.prog laidX ((World.doorLaid Tryd.prog 400 os).forCall (fun _ _ => 0) ⟨#[], args, []⟩).memory :=
  laidMetH_of_parts3 (fuel := 8) (laidMet_of_run' 8 (by kernel_rfl) (by kernel_rfl)) (by kernel_rfl) (by kernel_rfl)

theorem size_strs {H : Type} {P : Program} {e : TypeId} : ∀ {ss : List ByteArray} {s : ByteArray}, s ∈ ss → s.size ∈ DataW.weightsAll P e (strs (H := H) ss)
  | [], s, h => by simp at h
  | x :: ss, s, h => by
    simp only [strs, List.map_cons, DataW.weightsAll, DataW.weights, List.mem_append]
    rcases List.mem_cons.1 h with rfl | h
    · left; simp
    · right; exact size_strs h

set_option maxRecDepth 100000 in
theorem lifted (os : Os) (started : os.Started) (H : Type) (enc : TypeId × Value → H) :
    ReturnsInHanded {} Tryd.checked os 3 .any (fun w args => (Rows.fnExactIsSeriesSpec.pre enc Tryd.prog Tryd.f3 [] false w args ∧ laidMetH Tryd.prog laidX w) ∧ sizedMet enc Tryd.prog Tryd.f3 (OpenSpec.ofChange Rows.fnExactIsSeriesSpec) false w args)
      (Rows.fnExactIsSeriesSpec.post enc Tryd.prog Tryd.f3 false true false false) := by
  refine returnsInHanded_of_change_and (C := Tryd.checked) (X := fun w _ => laidMetH Tryd.prog laidX w) (fun _ _ _ hh h => h.of_heap hh) own started (by kernel_rfl) Tryd.func3
    (ChangeSpec.witness_shaped (enc := enc) (C := Tryd.checked) (os := os) (X := fun w _ => laidMetH Tryd.prog laidX w) false (World.doorLaid Tryd.prog 400 os) #[.slice none 0 0] 8 rfl (World.shaped_of_RefB (by kernel_rfl) (by kernel_rfl)) (by kernel_rfl) (by kernel_rfl) (by kernel_rfl) (door_met os _)) ?_
  intro W base args ds gs before hval0 hW _ hsz0 _ _
  have hval : ∀ (j : Nat) t v, Tryd.f3.params[j]? = some t → args[j]? = some v → Value.okWide Tryd.prog W .any base t v := hval0
  have hsz : (DataW.weightsEach Tryd.prog (Tryd.f3.params.toList ++ Rows.fnExactIsSeriesSpec.plain.varTypes Tryd.prog) (ds ++ gs)).all (· ≤ reachBytes) = true := hsz0
  have hW' := hW
  obtain ⟨p, q, hA0, hV, rfl, hfz, hnd⟩ := hW
  have hA : DataW.TrodAll enc Tryd.prog W 0 (fun _ => true) true Tryd.f3.params.toList args.toList ds p := hA0
  rw [Tryd.params3] at hA hval hsz
  obtain ⟨v0, d0, rfl, rfl, h0⟩ := trodAll_one hA
  obtain ⟨rfl, rfl⟩ := trodVars_none hV
  obtain ⟨a, len, cap, rfl⟩ := okWide_slice Tryd.underlying22 (hval 0 22 v0 rfl rfl)
  have k0 := h0
  have lt0 : ∀ x ∈ p, x.block < W.heap.size := by obtain ⟨m, hm⟩ := k0; exact DataW.trod_lt m _ _ _ hm
  obtain ⟨ss, hs1, hs2, hs3⟩ : ∃ ss : List ByteArray, ((a = none ∧ len = 0 ∧ cap = 0) ∨ ∃ x, a = some x ∧ len ≤ cap ∧ len ≤ ss.length ∧ ∀ i, i < ss.length → W.cell? (x.add i) = some (.string (ss.getD i ByteArray.empty))) ∧
      len < 4611686018427387904 ∧ ∀ s ∈ ss.take len, s.size < 4611686018427387904 := by
    obtain ⟨fuel, hf⟩ := h0
    rcases open_strings Tryd.underlying22 Tryd.underlying9 (by kernel_rfl) hf with ⟨hcs, _⟩ | ⟨x, l, c, ss, hcs, _, hl, hm, hz, hd, hcell, hwz⟩
    · simp [Value.cells] at hcs
      obtain ⟨rfl, rfl, rfl⟩ := hcs
      exact ⟨[], .inl ⟨rfl, rfl, rfl⟩, by omega, by simp⟩
    · simp [Value.cells] at hcs
      obtain ⟨rfl, rfl, rfl⟩ := hcs
      have hz' : ss.length = cap := by simpa using hz
      simp only [Prod.mk.injEq] at hd
      obtain ⟨hd, _⟩ := hd
      rw [hd] at hsz
      have h1 := sized_slice hsz (j := 0) (t := 22) (e := 9) rfl rfl Tryd.underlying22
      have hb : (Tryd.prog.bytesOf 9 : Nat) = 16 := by kernel_rfl
      rw [hb] at h1
      have h2 : (strs (H := H) (ss.take len)).length = min len ss.length := by simp [strs]
      rw [h2] at h1
      have hr : reachBytes = 140737488351232 := rfl
      rw [hr] at h1
      refine ⟨ss, .inr ⟨x, rfl, hl, by omega, hcell⟩, by omega, fun s hs => ?_⟩
      have := List.all_eq_true.1 hsz _ (DataW.weights_mem_each (j := 0) (t := 22) (d := .slice (strs (ss.take len)) (strs (ss.drop len))) rfl rfl s.size (by
        simp only [DataW.weights, Tryd.underlying22]
        exact List.mem_cons_of_mem _ (List.mem_append_left _ (size_strs hs))))
      have h3 : s.size ≤ reachBytes := by simpa using this
      rw [hr] at h3
      omega
  clear hA0 hval0 hsz0 hsz
  refine (walk W a len cap ss hs1 hs2 hs3).mono fun e W' ⟨he, bel⟩ => ?_
  subst he
  exact ⟨_, rfl, _, _, _, [], _, [], hW', trodAll_mk1 (shut_bool Tryd.underlying4 _), trodAll_mk1 (Below.trod laidOut (by kernel_rfl) (of_decide_eq_true (by kernel_rfl)) k0 bel lt0), rfl, bel.frame _, fun h => by cases h⟩

set_option maxRecDepth 100000 in
theorem row_holds : Rows.FnExactIsSeriesSaid :=
  OpenClaim.holds_of_wide 3 Tryd.f3 rfl rfl rfl rfl rfl rfl rfl ⟨rfl, rfl, rfl, rfl, rfl⟩ rfl rfl rfl rfl rfl (by kernel_rfl) Tryd.func3 (by kernel_rfl)
    (of_decide_eq_true (by kernel_rfl)) (by unfold Func.isWrapper; first | (rw [if_pos (by decide +kernel)]; kernel_rfl) | (rw [if_neg (by decide +kernel)]; exact ⟨rfl, rfl⟩))
    (fun os started H enc _ => lifted os started H enc)
#print axioms row_holds
end Go.Proofs.YtogabejpbdmnnaaDoor

/- The law of IsSeries: the tied card. -/
set_option linter.unusedSimpArgs false
set_option linter.unusedVariables false
namespace Go.Proofs.YtogabejpbdmnnaaDoor
open Go

set_option maxRecDepth 100000 in
theorem fnExactIsSeriesCard_holds : Rows.FnExactIsSeriesCardSaid :=
  Claim7.holds_tied_plain_at .later [] [.data, .data, .data, .sentinel, .sentinel] true Rows.fnExactIsSeriesCard.stood.harness true
    row_holds (fun _ h => by cases h) (by kernel_rfl) (fun _ h => by cases h) fnExactIsSeries_row_tie rfl ⟨rfl, rfl⟩ (by kernel_rfl) rfl
    (fun f fn hf hfn => by
      obtain rfl : f = 3 := Option.some.inj ((show Tryd.prog.funcNamed "loop.example/g01211/laws.FnExactIsSeries" = some 3 by kernel_rfl).symm.trans hf) |>.symm
      obtain rfl : fn = Tryd.f3 := (Option.some.inj (Tryd.func3.symm.trans hfn)).symm
      exact ⟨by kernel_rfl, fun j t ht => by
        rw [Tryd.params3] at ht
        have hm : t ∈ [22] := by simpa using Array.mem_of_getElem? ht
        have hall : ([22].all fun u => !Tryd.prog.wantsStandIn u) = true := by kernel_rfl
        exact (show Tryd.prog.wantsStandIn t = false by simpa using List.all_eq_true.1 hall t hm)⟩)
    (by kernel_rfl)
#print axioms fnExactIsSeriesCard_holds
end Go.Proofs.YtogabejpbdmnnaaDoor
