/- Ground 13. -/
import Derived.ProofKit
import Derived.LaidMore
import Derived.LaidLaws
import Derived.LaidHandle
import Derived.OpenShut
import Derived.WalkKit
import Derived.ShutString
import Derived.SizedLaws
import Derived.SliceStrings
import Derived.Below
import Derived.Carry
import Derived.Stop.Joined
import Derived.SevenTiedAt
import Derived.Stop.LaidErr
import Derived.Test.YtgfencjehdbjcaaGreatDoorM12

set_option linter.unusedVariables false
set_option linter.unusedSimpArgs false
set_option maxRecDepth 100000
namespace Go.Proofs.YtgfencjehdbjcaaGreatDoor
open Go

theorem MatH.rowset {T t : Nat} {L : List Rat → List AV} {h : Nat → Blk} {o : Nat} {rid : Nat → Nat} {n c i : Nat} {u : Mx} {e1 e2 : Bool} {w : Nat → Rat} (hm : MatH T t L h o rid n c u e1 e2) (hi : i < n) :
    MatH T t L (upd h (rid i) ⟨t, L (mapF c w), e1, true, true⟩) o rid n c (fun k => if k = i then w else u k) e1 e2 := by
  refine ⟨by rw [upd_app, if_neg (fun e => hm.apart i hi e.symm)]; exact hm.outer, fun k hk => ?_, hm.inj, hm.apart⟩
  rw [upd_app]
  by_cases e : rid k = rid i
  · obtain rfl := hm.inj k i hk hi e
    rw [if_pos rfl]; simp
  · rw [if_neg e, hm.row k hk, if_neg (fun h => e (by rw [h]))]
theorem rowT_done {pm : Mx} {n : Nat} : (fun k => if k = n then pm n else rowT pm n (fun _ => 0) k) = rowT pm (n + 1) (fun _ => 0) := by
  rw [← rowT_next]; funext i j; unfold rowT
  by_cases h : i = n
  · simp [h]
  · simp [h]
theorem rowI_put {k M N j : Nat} {f g : Nat → Rat} {q : Rat} (hq : q = g j) (h : rI k q = rI M q) (hg : ∀ i, g i = if i = j then q else f i) : (ratL M (mapF N f)).set j (rI k q) = ratL M (mapF N g) := by
 rw [h, ratL_put, mapF_set]; congr 1; exact mapF_congr fun i _ => (hg i).symm
set_option maxHeartbeats 8000000 in
theorem i_chain {fr : Nat → AV} {h : Nat → Blk} {nx : Nat} {x : MR} {acts : List Bool} (h1 : 1 ≤ x.room) (h8 : x.room ≤ 8) (ha : acts.length = x.room) (f1 : fits 700 x.come) (f2 : fits 700 x.serve) :
    InOk Tryz.prog ⟨fr, h, nx⟩ 62 [x.iv, .sl 4 (boolA acts) [] false] (.sl 59 (rowsS 53 (x.room + 1) fun n => ratL polB (mapF (x.room + 1) (polM x acts n))) [] false) ⟨fr, h, nx⟩ := by
  refine inOkS0 (W := ⟨fun g => g == 93, fun _ => none⟩) hm' Tryz.func62 rfl (by kernel_rfl) (Nat.le_of_ble_eq_true rfl) (go_start ?_)
  generalize hQ : PostS Tryz.prog Tryz.f62 _ _ _ _ = Q
  have hB : polB = 3000 := rfl
  have hcf := fun n k => @chS_fits x acts n k f1 f2
  have c1 := @chS_1 x acts
  have c2 := @chS_2 x acts
  have c3 := @chS_3 x acts
  have c0 : ∀ n, chS x acts n 0 = fun _ => 0 := fun n => rfl
  have cl : ∀ n, chS x acts n 3 = polM x acts n := fun n => rfl
  have hto : ∀ n, toF x.room (actF acts) n = if n < x.room ∧ actF acts n = true then n + 1 else n := fun n => rfl
  have hsv : stayR x = 1 - x.come - x.serve := rfl
  obtain ⟨r, hr⟩ : ∃ r, x.room = r := ⟨_, rfl⟩
  simp only [hsv] at c3
  simp only [hr] at h1 h8 hQ ha c1 c2 c3 hto
  generalize chS x acts = cs at *
  generalize polM x acts = pm at *
  generalize toF r (actF acts) = to at *
  have hz := fun (fr : Nat → AV) h nx => i_zeros (fr := fr) (h := h) (nx := nx) (n := r + 1) (M := polB) (by omega) (by omega) (by omega)
  simp only [matA_rows true (T := 59) (t := 53) (e := true) (e2 := true) (r := r + 1) (c := r + 1) (row := fun _ => ratL polB (mapF (r + 1) fun _ => 0)) (fun i _ => ⟨by rw [ratL_length, mapF_len], by simp⟩), cutH_self] at hz
  replace hz := fun fr => hz fr (upd h nx ⟨55, [x.iv], true, false, true⟩) (nx + 1)
  have hM0 : MatH 59 53 (ratL polB) (upd (rowsH (upd h nx ⟨55, [x.iv], true, false, true⟩) (nx + 1) 53 true true (r + 1) fun _ => ratL polB (mapF (r + 1) fun _ => 0)) (nx + 1 + (r + 1)) ⟨59, refsL (fun i => nx + 1 + i) (r + 1) (r + 1), true, true, true⟩) (nx + 1 + (r + 1)) (fun i => nx + 1 + i) (r + 1) (r + 1) (rowT pm 0 fun _ => 0) true true :=
    ⟨by simp [upd_app], fun i hi => by
      rw [upd_app, if_neg (by omega), rowsH, if_pos (by omega)]
      have : (rowT pm 0 fun _ => 0) i = fun _ => 0 := by funext j; unfold rowT; rw [if_neg (by omega)]; split <;> rfl
      rw [this], fun i j _ _ e => by omega, fun i hi => by omega⟩
  have hm0 : (upd (rowsH (upd h nx ⟨55, [x.iv], true, false, true⟩) (nx + 1) 53 true true (r + 1) fun _ => ratL polB (mapF (r + 1) fun _ => 0)) (nx + 1 + (r + 1)) ⟨59, refsL (fun i => nx + 1 + i) (r + 1) (r + 1), true, true, true⟩) nx = ⟨55, [x.iv], true, false, true⟩ := by
    rw [upd_app, if_neg (by omega), rowsH, if_neg (by omega), upd_app, if_pos rfl]
  have hol0 : ∀ i, i < nx → (upd (rowsH (upd h nx ⟨55, [x.iv], true, false, true⟩) (nx + 1) 53 true true (r + 1) fun _ => ratL polB (mapF (r + 1) fun _ => 0)) (nx + 1 + (r + 1)) ⟨59, refsL (fun i => nx + 1 + i) (r + 1) (r + 1), true, true, true⟩) i = h i := fun i hi => by
    rw [upd_app, if_neg (by omega), rowsH, if_neg (by omega), upd_app, if_neg (by omega)]
  have hrd : ∀ i, i < r + 1 → nx + 1 ≤ (fun i => nx + 1 + i) i ∧ (fun i => nx + 1 + i) i < nx + 1 + (r + 1) + 1 := fun i hi => by simp only; omega
  have hod : nx + 1 ≤ nx + 1 + (r + 1) ∧ nx + 1 + (r + 1) < nx + 1 + (r + 1) + 1 := by omega
  generalize (upd (rowsH (upd h nx ⟨55, [x.iv], true, false, true⟩) (nx + 1) 53 true true (r + 1) fun _ => ratL polB (mapF (r + 1) fun _ => 0)) (nx + 1 + (r + 1)) ⟨59, refsL (fun i => nx + 1 + i) (r + 1) (r + 1), true, true, true⟩) = hh at hM0 hm0 hol0 hz
  generalize nx + 1 + (r + 1) + 1 = nxx at *
  generalize nx + 1 + (r + 1) = o at *
  generalize (fun i => nx + 1 + i) = rid at *
  simp (disch := omega) only [go_sem, Nat.reduceEqDiff, Nat.reduceBEq, ↓reduceIte, reduceCtorEq, ↓k_appE, hr]
  refine callW_I (hz _) (by kernel_rfl) (.inl rfl) ?_
  have hol : (refsL rid (r + 1) (r + 1)).length = r + 1 := refsL_len
  simp (disch := omega) only [go_sem, Nat.reduceEqDiff, Nat.reduceBEq, ↓reduceIte, reduceCtorEq, ↓k_appE, hM0.outer, hol]
  refine k_loop (fun (n : Nat) st => st.fr 1 = .sl 4 (boolA acts) [] false ∧ st.fr 2 = .ptr nx 1 0 0 ∧ st.fr 5 = .ref o (r + 1) 0 (r + 1) ∧ st.fr 13 = .int .i64 ((r + 1 : Nat) : Int) ∧ st.fr 14 = .int .i64 n ∧ st.h nx = ⟨55, [x.iv], true, false, true⟩ ∧
      MatH 59 53 (ratL polB) st.h o rid (r + 1) (r + 1) (rowT pm n fun _ => 0) true true ∧ (∀ i, i < nx → st.h i = h i) ∧ st.nx = nxx ∧ n ≤ r + 1) (fun n => r + 1 - n) 0
    ⟨(by simp [upd_app] <;> omega), (by simp [upd_app] <;> omega), (by simp [upd_app] <;> omega), (by simp [upd_app] <;> omega), (by simp [upd_app] <;> omega), hm0, hM0, hol0, rfl, by omega⟩ ?_
  clear hM0 hm0 hol0 hz
  rintro n ⟨fr1, h2, nx1⟩ ⟨g1, g2, g5, g13, g14, hm0, HM, hold, hnx, hn⟩ J hJ
  simp only at g1 g2 g5 g13 g14 hm0 HM hold hnx
  subst hnx
  have hbl : (boolA acts).length = r := by rw [boolA_len, ha]
  by_cases hin : n < r + 1
  · have keyJ := hJ (n + 1)
    clear hJ
    have hout := HM.outer
    have hrow := HM.row n hin
    rw [rowT_at, ← c0 n] at hrow
    have ati := refsL_at (rid := rid) (c := r + 1) hin
    obtain ⟨hr1, hr2⟩ := hrd n hin
    have hap := HM.apart n hin
    have m1 : (rid n = o) = False := by simp; exact hap
    have m2 : (o = rid n) = False := by simp; exact fun e => hap e.symm
    have m3 : (rid n = nx) = False := by simp; omega
    have m4 : (nx = rid n) = False := by simp; omega
    have hrl : ∀ f : Nat → Rat, (ratL polB (mapF (r + 1) f)).length = r + 1 := fun f => by rw [ratL_length, mapF_len]
    have hv1 : ∀ K, 3000 ≤ K → rI K (cs n 0 (to n) + x.come) = rI polB (cs n 1 (to n)) := fun K hK => by
      have h1 := c1 (n := n) (to n); rw [if_pos rfl] at h1
      rw [← h1]; exact rI_re (fits_mono (hcf n 1 _) (by omega)) (hcf n 1 _)
    have hv2 : ∀ K, 3000 ≤ K → rI K (cs n 1 (n - 1) + x.serve) = rI polB (cs n 2 (n - 1)) := fun K hK => by
      have h1 := c2 (n := n) (n - 1); rw [if_pos rfl] at h1
      rw [← h1]; exact rI_re (fits_mono (hcf n 2 _) (by omega)) (hcf n 2 _)
    have hv3 : ∀ K, 3000 ≤ K → rI K (cs n 2 n + (1 - x.come - x.serve)) = rI polB (cs n 3 n) := fun K hK => by
      have h1 := c3 (n := n) n; rw [if_pos rfl] at h1
      rw [← h1]; exact rI_re (fits_mono (hcf n 3 _) (by omega)) (hcf n 3 _)
    have hs1 : (ratL polB (mapF (r + 1) (cs n 0))).set (to n) (rI polB (cs n 1 (to n))) = ratL polB (mapF (r + 1) (cs n 1)) := rowI_put rfl rfl fun i => by
      rw [c1 i]; split
      · rename_i e; rw [c1 (to n), if_pos rfl]
      · rfl
    have hs2 : (ratL polB (mapF (r + 1) (cs n 1))).set (n - 1) (rI polB (cs n 2 (n - 1))) = ratL polB (mapF (r + 1) (cs n 2)) := rowI_put rfl rfl fun i => by
      rw [c2 i]; split
      · rename_i e; rw [c2 (n - 1), if_pos rfl]
      · rfl
    have hs3 : (ratL polB (mapF (r + 1) (cs n 2))).set n (rI polB (cs n 3 n)) = ratL polB (mapF (r + 1) (cs n 3)) := rowI_put rfl rfl fun i => by
      rw [c3 i]; split
      · rename_i e; rw [c3 n, if_pos rfl]
      · rfl
    have atk : ∀ (f : Nat → Rat) k, k < r + 1 → (mapF (r + 1) f)[k]? = some (f k) := fun f k hk => mapF_at hk
    have htn : to n < r + 1 := by rw [hto]; split <;> omega
    have hupd : ∀ z w : Blk, upd (upd h2 (rid n) z) (rid n) w = upd h2 (rid n) w := by intro z w; funext j; simp only [upd_app]; split <;> rfl
    have hq1 : ((n : Int) - 1).toNat = n - 1 := by omega
    have hq2 : ((n : Int) + 1).toNat = n + 1 := by omega
    by_cases n0 : n = 0
    · subst n0
      simp only [Nat.zero_sub] at hv2 hs2
      have hak := act_at (acts := acts) (n := 0) (by omega)
      have hc0 : (0 : Nat) < r := by omega
      cases hac : actF acts 0 with
      | true =>
        have ht : to 0 = 1 := by rw [hto, if_pos ⟨hc0, hac⟩]
        rw [ht] at hv1 hs1 htn
        rw [hac] at hak
        simp (disch := omega) only [go_sem, ↓k_condStop, Nat.reduceEqDiff, Nat.reduceBEq, ↓reduceIte, reduceCtorEq, ↓k_appE, g1, g2, g5, g13, g14, hm0, hr, hout, hrow, ati, hol, hbl, boolA_at, reach, m1, m2, m3, m4, hrl, hupd, atk, mapF_len, ratL_at, hq1, hq2, hak]; try unfold goS
        rw [k_cond]
        simp (disch := omega) only [go_sem, ↓k_condStop, Nat.reduceEqDiff, Nat.reduceBEq, ↓reduceIte, reduceCtorEq, ↓k_appE, g1, g2, g5, g13, g14, hm0, hr, hout, hrow, ati, hol, hbl, boolA_at, reach, m1, m2, m3, m4, hrl, hupd, atk, mapF_len, ratL_at, hq1, hq2, hak]; try unfold goS
        rw [k_cond]
        simp (disch := omega) only [go_sem, Nat.reduceEqDiff, Nat.reduceBEq, ↓reduceIte, reduceCtorEq, ↓k_appE, g1, g2, g5, g13, g14, hm0, hr, hout, hrow, ati, hol, hbl, boolA_at, reach, m1, m2, m3, m4, hrl, hupd, atk, mapF_len, ratL_at, hq1, hq2, hak, hv1, hv2, hv3, hs1, hs2, hs3]
        (repeat (with_reducible refine Or.inr ?_))
        exact keyJ _ ⟨(by simp [upd_app, g1] <;> omega), (by simp [upd_app, g2] <;> omega), (by simp [upd_app, g5] <;> omega), (by simp [upd_app, g13] <;> omega), (by simp [upd_app] <;> omega), by simp (disch := omega) only [upd_app, ↓reduceIte, if_neg, hm0], by rw [← rowT_done]; simp only [cl]; exact HM.rowset hin, fun i hi => by simp (disch := omega) only [upd_app, if_neg, hold i hi], rfl, hin⟩ (by omega)
      | false =>
        have ht : to 0 = 0 := by rw [hto, if_neg (by simp [hac])]
        rw [ht] at hv1 hs1 htn
        rw [hac] at hak
        simp (disch := omega) only [go_sem, ↓k_condStop, Nat.reduceEqDiff, Nat.reduceBEq, ↓reduceIte, reduceCtorEq, ↓k_appE, g1, g2, g5, g13, g14, hm0, hr, hout, hrow, ati, hol, hbl, boolA_at, reach, m1, m2, m3, m4, hrl, hupd, atk, mapF_len, ratL_at, hq1, hq2, hak]; try unfold goS
        rw [k_cond]
        simp (disch := omega) only [go_sem, ↓k_condStop, Nat.reduceEqDiff, Nat.reduceBEq, ↓reduceIte, reduceCtorEq, ↓k_appE, g1, g2, g5, g13, g14, hm0, hr, hout, hrow, ati, hol, hbl, boolA_at, reach, m1, m2, m3, m4, hrl, hupd, atk, mapF_len, ratL_at, hq1, hq2, hak]; try unfold goS
        rw [k_cond]
        simp (disch := omega) only [go_sem, Nat.reduceEqDiff, Nat.reduceBEq, ↓reduceIte, reduceCtorEq, ↓k_appE, g1, g2, g5, g13, g14, hm0, hr, hout, hrow, ati, hol, hbl, boolA_at, reach, m1, m2, m3, m4, hrl, hupd, atk, mapF_len, ratL_at, hq1, hq2, hak, hv1, hv2, hv3, hs1, hs2, hs3]
        (repeat (with_reducible refine Or.inr ?_))
        exact keyJ _ ⟨(by simp [upd_app, g1] <;> omega), (by simp [upd_app, g2] <;> omega), (by simp [upd_app, g5] <;> omega), (by simp [upd_app, g13] <;> omega), (by simp [upd_app] <;> omega), by simp (disch := omega) only [upd_app, ↓reduceIte, if_neg, hm0], by rw [← rowT_done]; simp only [cl]; exact HM.rowset hin, fun i hi => by simp (disch := omega) only [upd_app, if_neg, hold i hi], rfl, hin⟩ (by omega)
    · by_cases c : n < r
      · have hak := act_at (acts := acts) (n := n) (by omega)
        cases hac : actF acts n with
        | true =>
          have ht : to n = n + 1 := by rw [hto, if_pos ⟨c, hac⟩]
          rw [ht] at hv1 hs1 htn
          rw [hac] at hak
          simp (disch := omega) only [go_sem, ↓k_condStop, Nat.reduceEqDiff, Nat.reduceBEq, ↓reduceIte, reduceCtorEq, ↓k_appE, g1, g2, g5, g13, g14, hm0, hr, hout, hrow, ati, hol, hbl, boolA_at, reach, m1, m2, m3, m4, hrl, hupd, atk, mapF_len, ratL_at, hq1, hq2, hak]; try unfold goS
          rw [k_cond]
          simp (disch := omega) only [go_sem, ↓k_condStop, Nat.reduceEqDiff, Nat.reduceBEq, ↓reduceIte, reduceCtorEq, ↓k_appE, g1, g2, g5, g13, g14, hm0, hr, hout, hrow, ati, hol, hbl, boolA_at, reach, m1, m2, m3, m4, hrl, hupd, atk, mapF_len, ratL_at, hq1, hq2, hak]; try unfold goS
          rw [k_cond]
          simp (disch := omega) only [go_sem, Nat.reduceEqDiff, Nat.reduceBEq, ↓reduceIte, reduceCtorEq, ↓k_appE, g1, g2, g5, g13, g14, hm0, hr, hout, hrow, ati, hol, hbl, boolA_at, reach, m1, m2, m3, m4, hrl, hupd, atk, mapF_len, ratL_at, hq1, hq2, hak, hv1, hv2, hv3, hs1, hs2, hs3]
          (repeat (with_reducible refine Or.inr ?_))
          exact keyJ _ ⟨(by simp [upd_app, g1] <;> omega), (by simp [upd_app, g2] <;> omega), (by simp [upd_app, g5] <;> omega), (by simp [upd_app, g13] <;> omega), (by simp [upd_app] <;> omega), by simp (disch := omega) only [upd_app, ↓reduceIte, if_neg, hm0], by rw [← rowT_done]; simp only [cl]; exact HM.rowset hin, fun i hi => by simp (disch := omega) only [upd_app, if_neg, hold i hi], rfl, hin⟩ (by omega)
        | false =>
          have ht : to n = n := by rw [hto, if_neg (by simp [hac])]
          rw [ht] at hv1 hs1 htn
          rw [hac] at hak
          simp (disch := omega) only [go_sem, ↓k_condStop, Nat.reduceEqDiff, Nat.reduceBEq, ↓reduceIte, reduceCtorEq, ↓k_appE, g1, g2, g5, g13, g14, hm0, hr, hout, hrow, ati, hol, hbl, boolA_at, reach, m1, m2, m3, m4, hrl, hupd, atk, mapF_len, ratL_at, hq1, hq2, hak]; try unfold goS
          rw [k_cond]
          simp (disch := omega) only [go_sem, ↓k_condStop, Nat.reduceEqDiff, Nat.reduceBEq, ↓reduceIte, reduceCtorEq, ↓k_appE, g1, g2, g5, g13, g14, hm0, hr, hout, hrow, ati, hol, hbl, boolA_at, reach, m1, m2, m3, m4, hrl, hupd, atk, mapF_len, ratL_at, hq1, hq2, hak]; try unfold goS
          rw [k_cond]
          simp (disch := omega) only [go_sem, Nat.reduceEqDiff, Nat.reduceBEq, ↓reduceIte, reduceCtorEq, ↓k_appE, g1, g2, g5, g13, g14, hm0, hr, hout, hrow, ati, hol, hbl, boolA_at, reach, m1, m2, m3, m4, hrl, hupd, atk, mapF_len, ratL_at, hq1, hq2, hak, hv1, hv2, hv3, hs1, hs2, hs3]
          (repeat (with_reducible refine Or.inr ?_))
          exact keyJ _ ⟨(by simp [upd_app, g1] <;> omega), (by simp [upd_app, g2] <;> omega), (by simp [upd_app, g5] <;> omega), (by simp [upd_app, g13] <;> omega), (by simp [upd_app] <;> omega), by simp (disch := omega) only [upd_app, ↓reduceIte, if_neg, hm0], by rw [← rowT_done]; simp only [cl]; exact HM.rowset hin, fun i hi => by simp (disch := omega) only [upd_app, if_neg, hold i hi], rfl, hin⟩ (by omega)
      · have ht : to n = n := by rw [hto, if_neg (fun h => c h.1)]
        rw [ht] at hv1 hs1 htn
        simp (disch := omega) only [go_sem, ↓k_condStop, Nat.reduceEqDiff, Nat.reduceBEq, ↓reduceIte, reduceCtorEq, ↓k_appE, g1, g2, g5, g13, g14, hm0, hr, hout, hrow, ati, hol, hbl, boolA_at, reach, m1, m2, m3, m4, hrl, hupd, atk, mapF_len, ratL_at, hq1, hq2]; try unfold goS
        rw [k_cond]
        simp (disch := omega) only [go_sem, ↓k_condStop, Nat.reduceEqDiff, Nat.reduceBEq, ↓reduceIte, reduceCtorEq, ↓k_appE, g1, g2, g5, g13, g14, hm0, hr, hout, hrow, ati, hol, hbl, boolA_at, reach, m1, m2, m3, m4, hrl, hupd, atk, mapF_len, ratL_at, hq1, hq2]; try unfold goS
        rw [k_cond]
        simp (disch := omega) only [go_sem, Nat.reduceEqDiff, Nat.reduceBEq, ↓reduceIte, reduceCtorEq, ↓k_appE, g1, g2, g5, g13, g14, hm0, hr, hout, hrow, ati, hol, hbl, boolA_at, reach, m1, m2, m3, m4, hrl, hupd, atk, mapF_len, ratL_at, hq1, hq2, hv1, hv2, hv3, hs1, hs2, hs3]
        (repeat (with_reducible refine Or.inr ?_))
        exact keyJ _ ⟨(by simp [upd_app, g1] <;> omega), (by simp [upd_app, g2] <;> omega), (by simp [upd_app, g5] <;> omega), (by simp [upd_app, g13] <;> omega), (by simp [upd_app] <;> omega), by simp (disch := omega) only [upd_app, ↓reduceIte, if_neg, hm0], by rw [← rowT_done]; simp only [cl]; exact HM.rowset hin, fun i hi => by simp (disch := omega) only [upd_app, if_neg, hold i hi], rfl, hin⟩ (by omega)
  · obtain rfl : n = r + 1 := by omega
    simp (disch := omega) only [go_sem, Nat.reduceEqDiff, Nat.reduceBEq, ↓reduceIte, reduceCtorEq, ↓k_appE, g1, g2, g5, g13, g14]
    rw [← hQ]
    have hall : ∀ i, i < r + 1 → rowT pm (r + 1) (fun _ => 0) i = pm i := fun i hi => by funext j; unfold rowT; rw [if_pos hi]
    refine ⟨trivial, ⟨.ref o (r + 1) 0 (r + 1), o :: (List.range (r + 1)).map rid, by simp [resV, resL, resA, upd_app, g5], ?_, ?_⟩, fun i hi _ => by simp only; exact hold i hi⟩
    · exact snapA_rows (d := 6) (by simp only; exact HM.outer) (fun i hi => ⟨true, true, by simp only; rw [HM.row i hi, hall i hi], by rw [ratL_length, mapF_len], by simp⟩)
    · intro i hi
      rcases List.mem_cons.1 hi with rfl | hi
      · omega
      · obtain ⟨k, hk, rfl⟩ := List.mem_map.1 hi
        have := (hrd k (List.mem_range.1 hk)).1
        omega
theorem gI_none {a : Mx} {n : Nat} : ∀ {k m : Nat}, gI a n k = none → k ≤ m → gI a n m = none
  | k, 0, h, hm => by obtain rfl : k = 0 := by omega
                      exact h
  | k, m + 1, h, hm => by
    rcases Nat.lt_or_ge m k with c | c
    · obtain rfl : k = m + 1 := by omega
      exact h
    · rw [gI, gI_none h c]
theorem gI_fail {a : Mx} {n k : Nat} {u : Mx} (hk : k < n) (hu : gI a n k = some u) (hp : piv u k n = n) : gI a n n = none := by
 refine gI_none (k := k + 1) ?_ hk
 rw [gI, hu]; simp [hp]
theorem gI_go {a : Mx} {n k : Nat} {u : Mx} (hu : gI a n k = some u) (hp : piv u k n ≠ n) : gI a n (k + 1) = some (elmI (swp u k (piv u k n)) k) := by
 rw [gI, hu]; simp [hp]
theorem gI_dia {a : Mx} {n k : Nat} {u : Mx} (hk : k ≤ n) (h : gI a n k = some u) : ∀ i, i < k → u i i ≠ 0 := by
 have := both_all a (n := n) k hk
 rw [h] at this
 cases hw : gS a n k with
 | none => rw [hw] at this; exact this.elim
 | some w => rw [hw] at this; exact this.udia
theorem colL_swap {u : Mx} {k p n : Nat} {M : Nat} (hk : k < n) (hp : p < n) : ((ratL M (mapF n fun i => u i n)).set k (rI M (u p n))).set p (rI M (u k n)) = ratL M (mapF n fun i => swp u k p i n) := by
 rw [ratL_put, ratL_put, mapF_set, mapF_set]
 congr 1
 refine mapF_congr fun i _ => ?_
 rw [swp_row]
 by_cases h1 : i = p <;> by_cases h2 : i = k <;> simp_all
structure SolH (U M : Nat) (h0 h : Nat → Blk) (nx0 o r n : Nat) (rid : Nat → Nat) (S : List Nat) (w v : Mx) (e1 e2 e3 g3 : Bool) : Prop where
 mat : MatH 59 53 (ratL U) h o rid n n w e1 e2
 right : h r = ⟨53, ratL M (mapF n fun i => v i n), e3, g3, true⟩
 mem : ∀ i, i < n → rid i ∈ S
 hold : ∀ i, i < nx0 → i ≠ r → i ∉ o :: S → h i = h0 i
section
variable {U M : Nat} {h0 h : Nat → Blk} {nx0 o r n : Nat} {rid : Nat → Nat} {S : List Nat} {w v w' v' : Mx} {e1 e2 e3 g3 : Bool}
theorem SolH.congr (H : SolH U M h0 h nx0 o r n rid S w v e1 e2 e3 g3) (hw : ∀ i j, i < n → j < n → w i j = w' i j) (hv : ∀ i, i < n → v i n = v' i n) : SolH U M h0 h nx0 o r n rid S w' v' e1 e2 e3 g3 :=
 ⟨H.mat.congr hw, by rw [H.right, mapF_congr fun i hi => hv i hi], H.mem, H.hold⟩
theorem SolH.put {i j : Nat} {x : Rat} (H : SolH U M h0 h nx0 o r n rid S w v e1 e2 e3 g3) (hi : i < n) (hr : ∀ i, i < n → rid i ≠ r) : SolH U M h0 (upd h (rid i) ⟨53, (ratL U (mapF n (w i))).set j (rI U x), e1, true, true⟩) nx0 o r n rid S (upd2 w i j x) v e1 e2 e3 g3 :=
 ⟨H.mat.put ratL_put hi, by rw [upd_app, if_neg (fun e => hr i hi e.symm)]; exact H.right, H.mem, fun k hk h1 h2 => by
  rw [upd_app, if_neg (fun e => h2 (by rw [e]; exact List.mem_cons_of_mem _ (H.mem i hi)))]; exact H.hold k hk h1 h2⟩
theorem SolH.putR {L : List AV} (H : SolH U M h0 h nx0 o r n rid S w v e1 e2 e3 g3) (hL : L = ratL M (mapF n fun i => v' i n)) (hr : ∀ i, i < n → rid i ≠ r) (ho : o ≠ r) : SolH U M h0 (upd h r ⟨53, L, e3, g3, true⟩) nx0 o r n rid S w v' e1 e2 e3 g3 :=
 ⟨H.mat.other (fun e => ho e.symm) (fun i hi e => hr i hi e.symm), by rw [upd_app, if_pos rfl, hL], H.mem, fun k hk h1 h2 => by rw [upd_app, if_neg h1]; exact H.hold k hk h1 h2⟩
theorem SolH.cell {id : Nat} {b : Blk} (H : SolH U M h0 h nx0 o r n rid S w v e1 e2 e3 g3) (hid : nx0 ≤ id) (ho : o < nx0) (hr : r < nx0) (hS : ∀ i ∈ S, i < nx0) : SolH U M h0 (upd h id b) nx0 o r n rid S w v e1 e2 e3 g3 :=
 ⟨H.mat.other (by omega) (fun i hi e => by have := hS _ (H.mem i hi); omega), by rw [upd_app, if_neg (by omega)]; exact H.right, H.mem, fun k hk h1 h2 => by rw [upd_app, if_neg (by omega)]; exact H.hold k hk h1 h2⟩
theorem SolH.swap {h' : Nat → Blk} {k p : Nat} (H : SolH U M h0 h nx0 o r n rid S w v e1 e2 e3 g3) (hk : k < n) (hp : p < n) (hr : ∀ i, i < n → rid i ≠ r)
    (k1 : h' o = ⟨59, refsL (swR rid k p) n n, e2, true, true⟩) (k2 : h' r = ⟨53, ratL M (mapF n fun i => swp v k p i n), e3, g3, true⟩) (k3 : ∀ i, i ≠ o → i ≠ r → h' i = h i) :
    SolH U M h0 h' nx0 o r n (swR rid k p) S (swp w k p) (swp v k p) e1 e2 e3 g3 := by
  refine ⟨(H.mat.swap hk hp).of_eq (by rw [k1, upd_app, if_pos rfl]) (fun i hi => ?_), k2, swR_mem H.mem hk hp, fun i hi h1 h2 => ?_⟩
  · have e1 : swR rid k p i ≠ o := by rw [swR_row]; exact H.mat.apart _ (by split <;> (try split) <;> omega)
    have e2 : swR rid k p i ≠ r := by rw [swR_row]; exact hr _ (by split <;> (try split) <;> omega)
    rw [upd_app, if_neg e1, k3 _ e1 e2]
  · rw [k3 i (fun e => h2 (by rw [e]; exact List.mem_cons_self ..)) h1]; exact H.hold i hi h1 h2
def sI (k i : Nat) : Nat → Bool := fun i' => decide (k < i' ∧ i' < i)
theorem sI_next {k i : Nat} (h : k < i) (i' : Nat) : sI k (i + 1) i' = true ↔ (sI k i i' = true ∨ i' = i) := by simp only [sI, decide_eq_true_eq]; omega
theorem sI_self {k i : Nat} : sI k i i = false := by simp [sI]
theorem sI_piv {k i : Nat} : sI k i k = false := by simp [sI]
theorem sI_first {k : Nat} {b : Mx} {i : Nat} : pel b k (sI k (k + 1)) i k = b := by
 have : sI k (k + 1) = fun _ => false := by funext i'; simp only [sI]; exact decide_eq_false (by omega)
 rw [this, pel_first]
theorem sI_last {k n i j : Nat} {b : Mx} (hi : i < n) : pel b k (sI k n) n k i j = elmI b k i j := by
  unfold pel elmI
  by_cases c : k < i ∧ k ≤ j
  · rw [if_pos ⟨.inl (by simp only [sI]; exact decide_eq_true ⟨c.1, hi⟩), c.2⟩, if_pos c]
  · rw [if_neg, if_neg c]
    rintro ⟨h1 | ⟨_, h2⟩, h3⟩
    · simp only [sI, decide_eq_true_eq] at h1; exact c ⟨h1.1, h3⟩
    · omega
theorem pel_col {b : Mx} {k i n : Nat} {s : Nat → Bool} (hk : k ≤ n) (i' : Nat) : pel b k s i k i' n = pel b k s i n i' n := by
  unfold pel
  by_cases c : s i' = true
  · rw [if_pos ⟨.inl c, hk⟩, if_pos ⟨.inl c, hk⟩]
  · rw [if_neg, if_neg] <;> rintro ⟨h1 | ⟨_, h2⟩, h3⟩ <;> first | exact c h1 | omega
end
def solX (r n : Nat) : Option Mx → AV
 | some _ => .tup [.ref r n 0 n, .bool true]
 | none => .tup [.nil, .bool false]
def solE (o r : Nat) (S : List Nat) : Option Mx → List Nat
 | some _ => o :: S
 | none => r :: o :: S
def solY (M n : Nat) (h : Nat → Blk) (r : Nat) (e3 g3 : Bool) : Option Mx → Nat → Blk
 | some u => upd h r ⟨53, ratL M (mapF n (bk u n n)), e3, g3, true⟩
 | none => h
def bkP (u : Mx) (n t m : Nat) : Mx := fun i j => if j = n then (if i = n - 1 - t then sbX u (bk u n t) (n - 1 - t) m else bk u n t i) else u i j
def bkM (u : Mx) (n t : Nat) : Mx := fun i j => if j = n then bk u n t i else u i j
theorem bkP_zero {u : Mx} {n t i : Nat} : bkP u n t 0 i n = bkM u n t i n := by
  unfold bkP bkM; rw [if_pos rfl, if_pos rfl]; split
  · rename_i e; rw [sbX, e]
  · rfl
set_option maxHeartbeats 16000000 in
theorem i_solve {fr : Nat → AV} {h : Nat → Blk} {nx o r n U M : Nat} {rid : Nat → Nat} {S : List Nat} {a : Mx} {e1 e2 e3 g3 : Bool} (H : SolH U M h h nx o r n rid S a a e1 e2 e3 g3) (ho : o < nx) (hr : r < nx) (hor : o ≠ r) (hS : ∀ i ∈ S, i < nx ∧ i ≠ r ∧ i ≠ o) (h1 : 1 ≤ n) (hn : n ≤ 12)
    (hM : M ≤ 50000000000) (hUM : U ≤ 1000000000) (hU : ∀ k, k ≤ n → ∀ u, gI a n k = some u → FitM U u n (n + 1)) (hX : ∀ u, gI a n n = some u → (∀ t, t ≤ n → ∀ i, i < n → fits M (bk u n t i)) ∧ ∀ t, t < n → ∀ m, m ≤ t → fits M (sbX u (bk u n t) (n - 1 - t) m))
    (hUM2 : U ≤ M) :
    InOk Tryz.prog ⟨fr, h, nx⟩ 65 [.ref o n 0 n, .ref r n 0 n] (solX r n (gI a n n)) ⟨fr, cutH h (solY M n h r e3 g3 (gI a n n)) nx (solE o r S (gI a n n)), nx⟩ := by
  have hst : Stays Tryz.prog (solX r n (gI a n n)) (cutH h (solY M n h r e3 g3 (gI a n n)) nx (solE o r S (gI a n n))) nx (solE o r S (gI a n n)) := by
    cases gI a n n with
    | none => exact stays_pure rfl
    | some u => exact stays_refB hr (by rw [solE]; intro hm; rcases List.mem_cons.1 hm with e | hm; exact hor e.symm; exact (hS _ hm).2.1 rfl)
  have hpu : ∀ i, i < nx → i ∉ solE o r S (gI a n n) → solY M n h r e3 g3 (gI a n n) i = h i ∨ AV.pureL (solY M n h r e3 g3 (gI a n n) i).xs = true := by
    intro i _ _
    cases gI a n n with
    | none => exact .inl rfl
    | some u =>
      rw [solY, upd_app]
      by_cases e : i = r
      · rw [if_pos e]; exact .inr (by simp)
      · rw [if_neg e]; exact .inl rfl
  refine inOkE_of_wpcD (W := ⟨fun _ => false, fun q => if q = 15 then some [(2, 15), (3, 15), (5, 15), (6, 15), (9, 15), (10, 15), (12, 15), (13, 15)] else none⟩) hm' Tryz.func65 rfl (by kernel_rfl) (Nat.le_of_ble_eq_true rfl) hst hpu (go_start ?_)
  clear hst hpu
  generalize hQ : PostE Tryz.prog Tryz.f65 _ _ _ _ = Q
  have hrl : ∀ (f : Nat → Nat), (refsL f n n).length = n := fun _ => refsL_len
  have hml : ∀ (f : Nat → Rat), (ratL M (mapF n f)).length = n := fun _ => by rw [ratL_length, mapF_len]
  have hul : ∀ (f : Nat → Rat), (ratL U (mapF n f)).length = n := fun _ => by rw [ratL_length, mapF_len]
  have hrS : ∀ (g : Nat → Nat), (∀ i, i < n → g i ∈ S) → ∀ i, i < n → g i ≠ r := fun g hg i hi => (hS _ (hg i hi)).2.1
  simp (disch := omega) only [go_sem, Nat.reduceEqDiff, Nat.reduceBEq, ↓reduceIte, reduceCtorEq, ↓k_appE, hrl, H.mat.outer]
  refine k_loop (fun (⟨k, g, u⟩ : Nat × (Nat → Nat) × Mx) st => st.fr 0 = .ref o n 0 n ∧ st.fr 1 = .ref r n 0 n ∧ st.fr 6 = .int .i64 n ∧ st.fr 16 = .int .i64 n ∧ st.fr 17 = .int .i64 k ∧ gI a n k = some u ∧ SolH U M h st.h nx o r n g S u u e1 e2 e3 g3 ∧ nx ≤ st.nx ∧ k ≤ n) (fun (⟨k, g, u⟩ : Nat × (Nat → Nat) × Mx) => n - k) (0, rid, a)
    ⟨(by simp [upd_app] <;> omega), (by simp [upd_app] <;> omega), (by simp [upd_app] <;> omega), (by simp [upd_app] <;> omega), (by simp [upd_app] <;> omega), rfl, H, Nat.le_refl _, by omega⟩ ?_
  rintro ⟨k, g, u⟩ ⟨fr1, hh, nx1⟩ ⟨g0, g1, g6, g16, g17, hu, H1, hnx, hk⟩ J hJ
  simp only at g0 g1 g6 g16 g17 hu H1 hnx
  by_cases hin : k < n
  · have keyJ := fun y st' => hJ y st'
    clear hJ
    simp (disch := omega) only [go_sem, Nat.reduceEqDiff, Nat.reduceBEq, ↓reduceIte, reduceCtorEq, ↓k_appE, g0, g1, g6, g16, g17]
    refine k_loop (fun (p : Nat) st => st.fr 0 = .ref o n 0 n ∧ st.fr 1 = .ref r n 0 n ∧ st.fr 6 = .int .i64 n ∧ st.fr 7 = .int .i64 k ∧ st.fr 8 = .int .i64 p ∧ st.fr 16 = .int .i64 n ∧ st.fr 17 = .int .i64 k ∧ st.h = hh ∧ st.nx = nx1 ∧ k ≤ p ∧ p ≤ n ∧ ∀ j, k ≤ j → j < p → u j k = 0) (fun p => n - p) k
      ⟨(by simp [upd_app, g0] <;> omega), (by simp [upd_app, g1] <;> omega), (by simp [upd_app, g6] <;> omega), (by simp [upd_app] <;> omega), (by simp [upd_app] <;> omega), (by simp [upd_app, g16] <;> omega), (by simp [upd_app, g17] <;> omega), rfl, rfl, Nat.le_refl _, hk, fun j h1 h2 => by omega⟩ ?_
    rintro p ⟨fr2, h2, nx2⟩ ⟨r0, r1, r6, r7, r8, r16, r17, eh, enx, hkp, hpn, hz⟩ J2 hJ2
    simp only at r0 r1 r6 r7 r8 r16 r17 eh enx
    subst eh enx
    have hout := H1.mat.outer
    by_cases hp : p < n
    · have hrp := H1.mat.row p hp
      have hat := refsL_at (rid := g) (c := n) hp
      have hsg := w_sign (m := U) (a := u p k) (by omega)
      have hck : (mapF n (u p))[k]? = some (u p k) := mapF_at hin
      by_cases h0 : u p k = 0
      · have hs0 : (u p k).num.sign = 0 := by rw [h0]; rfl
        rw [hs0] at hsg
        simp (disch := omega) only [go_sem, Nat.reduceEqDiff, Nat.reduceBEq, ↓reduceIte, reduceCtorEq, ↓k_appE, r0, r1, r6, r7, r8, r16, r17, hout, hrl, hat, hrp, hul, hck, hsg]
        (repeat (with_reducible refine Or.inr ?_))
        exact hJ2 (p + 1) _ ⟨(by simp [upd_app, r0] <;> omega), (by simp [upd_app, r1] <;> omega), (by simp [upd_app, r6] <;> omega), (by simp [upd_app, r7] <;> omega), (by simp [upd_app] <;> omega), (by simp [upd_app, r16] <;> omega), (by simp [upd_app, r17] <;> omega), rfl, rfl, by omega, hp, fun j h1 h2 => by
          rcases Nat.lt_or_ge j p with c | c
          · exact hz j h1 c
          · obtain rfl : j = p := by omega
            exact h0⟩ (by omega)
      · have hs0 : (u p k).num.sign ≠ 0 := sign_ne fun e => h0 (num_zero.1 e)
        generalize (u p k).num.sign = s0 at hsg hs0
        have hpv : piv u k n = p := piv_eq hkp hpn hz (.inr h0)
        have hrk := H1.mat.row k hin
        have hatk := refsL_at (rid := g) (c := n) hin
        have hmk : (mapF n fun i => u i n)[k]? = some (u k n) := mapF_at hin
        have hmp : (mapF n fun i => u i n)[p]? = some (u p n) := mapF_at hp
        clear hJ2
        obtain ⟨f1, hf1⟩ : ∃ f, (fun j => if j = k then g p else g j) = f := ⟨_, rfl⟩
        obtain ⟨c1, hc1⟩ : ∃ f, (fun i => if i = k then u p n else u i n) = f := ⟨_, rfl⟩
        have q1 : (refsL g n n).set k (.ref (g p) n 0 n) = refsL f1 n n := by rw [refsL_set, hf1]
        have q2 := refsL_at (rid := f1) (c := n) hp
        have q3 : (refsL f1 n n).set p (.ref (g k) n 0 n) = refsL (swR g k p) n n := by rw [refsL_set, ← hf1]; rfl
        have q4 : (ratL M (mapF n fun i => u i n)).set k (rI M (u p n)) = ratL M (mapF n c1) := by rw [ratL_put, mapF_set, hc1]
        have q5 : (mapF n c1)[p]? = some (c1 p) := mapF_at hp
        have q6 : (ratL M (mapF n c1)).set p (rI M (u k n)) = ratL M (mapF n fun i => swp u k p i n) := by rw [← q4]; exact colL_swap hin hp
        have hgo := gI_go hu (by rw [hpv]; omega)
        rw [hpv] at hgo
        have hbU := (hU k (by omega) u hu).swp hin hp
        have hbE := hU (k + 1) hin _ hgo
        have hbk : swp u k p k k ≠ 0 := by rw [swp_row, if_pos rfl]; exact h0
        have HS : ∀ h' : Nat → Blk, _ → _ → _ → _ := fun h' k1 k2 k3 => H1.swap (h' := h') hin hp (hrS g H1.mem) k1 k2 k3
        simp (disch := omega) only [go_sem, Nat.reduceEqDiff, Nat.reduceBEq, ↓reduceIte, reduceCtorEq, ↓k_appE, r0, r1, r6, r7, r8, r16, r17, hout, hrl, hat, hrp, hul, hck, hsg, H1.right, hml, hatk, hmk, hmp, q1, q2, q3, q4, q5, q6]
        (repeat (with_reducible refine Or.inr ?_))
        generalize swp u k p = b at *
        generalize swR g k p = g2 at *
        refine k_loop (fun (i : Nat) st => st.fr 0 = .ref o n 0 n ∧ st.fr 1 = .ref r n 0 n ∧ st.fr 6 = .int .i64 n ∧ st.fr 7 = .int .i64 k ∧ st.fr 9 = .int .i64 i ∧ st.fr 16 = .int .i64 n ∧ st.fr 17 = .int .i64 k ∧ SolH U M h st.h nx o r n g2 S (pel b k (sI k i) i k) (pel b k (sI k i) i k) e1 e2 e3 g3 ∧ nx ≤ st.nx ∧ k + 1 ≤ i ∧ i ≤ n) (fun i => n - i) (k + 1)
          ⟨(by simp [upd_app, r0] <;> omega), (by simp [upd_app, r1] <;> omega), (by simp [upd_app, r6] <;> omega), (by simp [upd_app, r7] <;> omega), (by simp [upd_app] <;> omega), (by simp [upd_app, r16] <;> omega), (by simp [upd_app, r17] <;> omega), by
            rw [sI_first]
            exact HS _ (by simp (disch := omega) only [upd_app, ↓reduceIte, if_pos, if_neg]) (by simp (disch := omega) only [upd_app, ↓reduceIte, if_pos, if_neg]) (fun i h1 h2 => by simp only [upd_app]; simp only [h1, h2, if_false]), hnx, Nat.le_refl _, by omega⟩ ?_
        clear HS q1 q2 q3 q4 q5 q6 hmk hmp hatk hrk hat hrp hck hsg hout
        rintro i ⟨fr3, h3, nx3⟩ ⟨t0, t1, t6, t7, t9, t16, t17, H2, hnx3, hki, hi⟩ J3 hJ3
        simp only at t0 t1 t6 t7 t9 t16 t17 H2 hnx3
        have hout := H2.mat.outer
        by_cases hin3 : i < n
        · have keyJ3 := hJ3 (i + 1)
          clear hJ3
          have hri := H2.mat.row i hin3
          have hrk := H2.mat.row k hin
          rw [pel_pivot sI_piv (show i ≠ k by omega)] at hrk
          have ati := refsL_at (rid := g2) (c := n) hin3
          have atk := refsL_at (rid := g2) (c := n) hin
          have cik : (mapF n (pel b k (sI k i) i k i))[k]? = some (b i k) := by rw [mapF_at hin, pel_old sI_self (Nat.le_refl k)]
          have ckk : (mapF n (b k))[k]? = some (b k k) := mapF_at hin
          have hsg := w_sign (m := U) (a := b i k) (by omega)
          have hgr : g2 i ≠ r := hrS g2 H2.mem i hin3
          by_cases hz0 : b i k = 0
          · have hs1 : (b i k).num.sign = 0 := by rw [hz0]; rfl
            rw [hs1] at hsg
            simp (disch := omega) only [go_sem, Nat.reduceEqDiff, Nat.reduceBEq, ↓reduceIte, reduceCtorEq, ↓k_appE, t0, t1, t6, t7, t9, t16, t17, hout, hrl, ati, hri, hul, cik, hsg]
            (repeat (with_reducible refine Or.inr ?_))
            exact keyJ3 _ ⟨(by simp [upd_app, t0] <;> omega), (by simp [upd_app, t1] <;> omega), (by simp [upd_app, t6] <;> omega), (by simp [upd_app, t7] <;> omega), (by simp [upd_app] <;> omega), (by simp [upd_app, t16] <;> omega), (by simp [upd_app, t17] <;> omega), by
              have e : pel b k (sI k (i + 1)) (i + 1) k = pel b k (sI k i) i k := by rw [pel_begin (i2 := i), ← pel_skip (sI_next (by omega)) hz0]
              rw [e]; exact H2, hnx3, by omega, hin3⟩ (by omega)
          · have hs1 : (b i k).num.sign ≠ 0 := sign_ne fun e => hz0 (num_zero.1 e)
            generalize (b i k).num.sign = s1 at hsg hs1
            have hov := w_over (m := U) (n := U) (a := b i k) (b := b k k) (by omega) (fun e => hbk (num_zero.1 e))
            have m1 : (g2 i = nx3) = False := by have := (hS _ (H2.mem i hin3)).1; simp; omega
            have m2 : (g2 k = nx3) = False := by have := (hS _ (H2.mem k hin)).1; simp; omega
            have m3 : (o = nx3) = False := by simp; omega
            have m4 : (r = nx3) = False := by simp; omega
            obtain ⟨f, hf⟩ : ∃ f, b i k / b k k = f := ⟨_, rfl⟩
            rw [hf] at hov
            simp (disch := omega) only [go_sem, Nat.reduceEqDiff, Nat.reduceBEq, ↓reduceIte, reduceCtorEq, ↓k_appE, t0, t1, t6, t7, t9, t16, t17, hout, hrl, ati, hri, hul, cik, hsg, atk, hrk, ckk, hov, m1, m2, m3]
            (repeat (with_reducible refine Or.inr ?_))
            have m5 : (nx3 = g2 i) = False := by have := (hS _ (H2.mem i hin3)).1; simp; omega
            refine k_loop (fun (j : Nat) st => st.fr 0 = .ref o n 0 n ∧ st.fr 1 = .ref r n 0 n ∧ st.fr 6 = .int .i64 n ∧ st.fr 7 = .int .i64 k ∧ st.fr 9 = .int .i64 i ∧ st.fr 10 = .ptr nx3 1 0 0 ∧ st.fr 11 = .int .i64 j ∧ st.fr 16 = .int .i64 n ∧ st.fr 17 = .int .i64 k ∧ SolH U M h st.h nx o r n g2 S (pel b k (sI k i) i j) (pel b k (sI k i) i k) e1 e2 e3 g3 ∧ st.h nx3 = ⟨53, [rI (U + U) f], true, false, true⟩ ∧ nx3 < st.nx ∧ k ≤ j ∧ j ≤ n) (fun j => n - j) k
              ⟨(by simp [upd_app, t0] <;> omega), (by simp [upd_app, t1] <;> omega), (by simp [upd_app, t6] <;> omega), (by simp [upd_app, t7] <;> omega), (by simp [upd_app, t9] <;> omega), (by simp [upd_app] <;> omega), (by simp [upd_app] <;> omega), (by simp [upd_app, t16] <;> omega), (by simp [upd_app, t17] <;> omega), (H2.cell hnx3 ho hr (fun i hi => (hS i hi).1)).cell hnx3 ho hr (fun i hi => (hS i hi).1), by simp [upd_app], by simp, Nat.le_refl _, by omega⟩ ?_
            clear m1 m2 m3 hout hri hrk
            rintro j ⟨fr4, h4, nx4⟩ ⟨s0, s1', s6, s7, s9, s10, s11, s16, s17, H4, mc, hnx4, hkj, hj⟩ J4 hJ4
            simp only at s0 s1' s6 s7 s9 s10 s11 s16 s17 H4 mc hnx4
            have hout4 := H4.mat.outer
            have hri4 := H4.mat.row i hin3
            have hrk4 := H4.mat.row k hin
            rw [pel_pivot sI_piv (show i ≠ k by omega)] at hrk4
            have hvU : ∀ j', k ≤ j' → j' ≤ n → fits U (b i j' - f * b k j') := fun j' h1 h2 => by
              have := hbE i j' hin3 (by omega)
              unfold elmI at this
              rw [if_pos ⟨by omega, h1⟩, hf] at this
              exact this
            by_cases hjn : j < n
            · have cij : (mapF n (pel b k (sI k i) i j i))[j]? = some (b i j) := by rw [mapF_at hjn, pel_old sI_self (Nat.le_refl j)]
              have ckj : (mapF n (b k))[j]? = some (b k j) := mapF_at hjn
              have hre : ∀ q, U ≤ q → rI q (b i j - f * b k j) = rI U (b i j - f * b k j) := fun q hq => rI_le (hvU j hkj hj) hq
              have hst := pel_step (u := b) (k := k) (i := i) (j0 := j) (s := sI k i) sI_self hkj
              rw [hf] at hst
              have HP := H4.put (j := j) (x := b i j - f * b k j) hin3 (hrS g2 H4.mem)
              rw [hst] at HP
              simp (disch := omega) only [go_sem, Nat.reduceEqDiff, Nat.reduceBEq, ↓reduceIte, reduceCtorEq, ↓k_appE, s0, s1', s6, s7, s9, s10, s11, s16, s17, hout4, hrl, ati, hri4, hul, cij, atk, hrk4, ckj, mc, hre]
              (repeat (with_reducible refine Or.inr ?_))
              exact hJ4 (j + 1) _ ⟨(by simp [upd_app, s0] <;> omega), (by simp [upd_app, s1'] <;> omega), (by simp [upd_app, s6] <;> omega), (by simp [upd_app, s7] <;> omega), (by simp [upd_app, s9] <;> omega), (by simp [upd_app, s10] <;> omega), (by simp [upd_app] <;> omega), (by simp [upd_app, s16] <;> omega), (by simp [upd_app, s17] <;> omega), HP, by simp only [upd_app, m5, if_false, mc], hnx4, by omega, hjn⟩ (by omega)
            · obtain rfl : n = j := by omega
              have hrt := H4.right
              have cri : (mapF n fun i' => pel b k (sI k i) i k i' n)[i]? = some (b i n) := by rw [mapF_at hin3, pel_old sI_self (by omega)]
              have crk : (mapF n fun i' => pel b k (sI k i) i k i' n)[k]? = some (b k n) := by rw [mapF_at hin, pel_pivot sI_piv (show i ≠ k by omega)]
              have hre : ∀ q, M ≤ q → rI q (b i n - f * b k n) = rI M (b i n - f * b k n) := fun q hq => rI_le (fits_mono (hvU n (by omega) (Nat.le_refl n)) hUM2) hq
              have hst := pel_step (u := b) (k := k) (i := i) (j0 := n) (s := sI k i) sI_self (by omega)
              rw [hf] at hst
              have hL : (ratL M (mapF n fun i' => pel b k (sI k i) i k i' n)).set i (rI M (b i n - f * b k n)) = ratL M (mapF n fun i' => upd2 (pel b k (sI k i) i k) i n (b i n - f * b k n) i' n) := by rw [ratL_put, upd2_colset]
              have HR := H4.putR hL (hrS g2 H4.mem) hor
              have HN := HR.congr (w' := pel b k (sI k (i + 1)) (i + 1) k) (v' := pel b k (sI k (i + 1)) (i + 1) k) (fun i' j' hi' hj' => by rw [pel_done (c := n) (t := sI k (i + 1)) (sI_next (by omega)) i' j' hj', pel_begin]) (fun i' hi' => by
                have e1 : upd2 (pel b k (sI k i) i k) i n (b i n - f * b k n) i' n = upd2 (pel b k (sI k i) i n) i n (b i n - f * b k n) i' n := by
                  unfold upd2; split
                  · rfl
                  · exact pel_col (by omega) i'
                rw [e1, hst, pel_done (c := n + 1) (t := sI k (i + 1)) (sI_next (by omega)) i' n (by omega), pel_begin])
              simp (disch := omega) only [go_sem, Nat.reduceEqDiff, Nat.reduceBEq, ↓reduceIte, reduceCtorEq, ↓k_appE, s0, s1', s6, s7, s9, s10, s11, s16, s17, hrt, hml, cri, crk, mc, hre]
              (repeat (with_reducible refine Or.inr ?_))
              exact keyJ3 _ ⟨(by simp [upd_app, s0] <;> omega), (by simp [upd_app, s1'] <;> omega), (by simp [upd_app, s6] <;> omega), (by simp [upd_app, s7] <;> omega), (by simp [upd_app] <;> omega), (by simp [upd_app, s16] <;> omega), (by simp [upd_app, s17] <;> omega), HN, by simp only; omega, by omega, hin3⟩ (by omega)
        · obtain rfl : i = n := by omega
          simp (disch := omega) only [go_sem, Nat.reduceEqDiff, Nat.reduceBEq, ↓reduceIte, reduceCtorEq, ↓k_appE, t0, t1, t6, t7, t9, t16, t17]
          exact keyJ (k + 1, g2, elmI b k) _ ⟨(by simp [upd_app, t0] <;> omega), (by simp [upd_app, t1] <;> omega), (by simp [upd_app, t6] <;> omega), (by simp [upd_app, t16] <;> omega), (by simp [upd_app] <;> omega), hgo, H2.congr (fun i' j hi' _ => sI_last hi') (fun i' hi' => sI_last hi'), hnx3, hin⟩ (by simp only; omega)
    · obtain rfl : p = n := by omega
      have hpv : piv u k p = p := piv_eq hkp (Nat.le_refl _) hz (.inl rfl)
      rw [gI_fail hin hu hpv] at hQ
      simp (disch := omega) only [go_sem, Nat.reduceEqDiff, Nat.reduceBEq, ↓reduceIte, reduceCtorEq, ↓k_appE, r0, r1, r6, r7, r8, r16, r17]
      rw [← hQ]
      exact postE_two (.inl rfl) rfl (by simp [upd_app] <;> omega) (by simp [upd_app] <;> omega) (fun i hi he => by
        simp only [solE, List.mem_cons, not_or] at he
        exact H1.hold i hi he.1 (by simp only [List.mem_cons, not_or]; exact ⟨he.2.1, he.2.2⟩)) hnx
  · obtain rfl : n = k := by omega
    obtain ⟨hbf, hsf⟩ := hX u hu
    have huU := hU n (Nat.le_refl n) u hu
    have hdia := gI_dia (Nat.le_refl n) hu
    rw [hu] at hQ
    clear hJ
    simp (disch := omega) only [go_sem, Nat.reduceEqDiff, Nat.reduceBEq, ↓reduceIte, reduceCtorEq, ↓k_appE, g0, g1, g6, g16, g17]
    refine k_loop (fun (t : Nat) st => st.fr 0 = .ref o n 0 n ∧ st.fr 1 = .ref r n 0 n ∧ st.fr 6 = .int .i64 n ∧ st.fr 12 = .int .i64 ((n : Int) - 1 - (t : Int)) ∧ SolH U M h st.h nx o r n g S u (bkM u n t) e1 e2 e3 g3 ∧ nx ≤ st.nx ∧ t ≤ n) (fun t => n - t) 0
      ⟨(by simp [upd_app, g0] <;> omega), (by simp [upd_app, g1] <;> omega), (by simp [upd_app, g6] <;> omega), (by simp [upd_app] <;> omega), H1.congr (fun _ _ _ _ => rfl) (fun i _ => by unfold bkM; rw [if_pos rfl, bk]), hnx, by omega⟩ ?_
    rintro t ⟨fr2, h2, nx2⟩ ⟨r0, r1, r6, r12, H2, hnx2, ht⟩ J2 hJ2
    simp only at r0 r1 r6 r12 H2 hnx2
    by_cases htn : t < n
    · have keyJ2 := hJ2 (t + 1)
      clear hJ2
      obtain ⟨q, hq⟩ : ∃ q, n - 1 - t = q := ⟨_, rfl⟩
      have hqn : q < n := by omega
      have hqi : (n : Int) - 1 - (t : Int) = q := by omega
      rw [hqi] at r12
      simp (disch := omega) only [go_sem, Nat.reduceEqDiff, Nat.reduceBEq, ↓reduceIte, reduceCtorEq, ↓k_appE, r0, r1, r6, r12]
      refine k_loop (fun (m : Nat) st => st.fr 0 = .ref o n 0 n ∧ st.fr 1 = .ref r n 0 n ∧ st.fr 6 = .int .i64 n ∧ st.fr 12 = .int .i64 q ∧ st.fr 13 = .int .i64 ((q + 1 + m : Nat) : Int) ∧ SolH U M h st.h nx o r n g S u (bkP u n t m) e1 e2 e3 g3 ∧ nx ≤ st.nx ∧ m ≤ t) (fun m => t - m) 0
        ⟨(by simp [upd_app, r0] <;> omega), (by simp [upd_app, r1] <;> omega), (by simp [upd_app, r6] <;> omega), (by simp [upd_app, r12] <;> omega), (by simp [upd_app] <;> omega), H2.congr (fun _ _ _ _ => rfl) (fun i _ => bkP_zero.symm), hnx2, by omega⟩ ?_
      rintro m ⟨fr3, h3, nx3⟩ ⟨t0, t1, t6, t12, t13, H3, hnx3, hm⟩ J3 hJ3
      simp only at t0 t1 t6 t12 t13 H3 hnx3
      have hout := H3.mat.outer
      have hrq := H3.mat.row q hqn
      have atq := refsL_at (rid := g) (c := n) hqn
      have hrt := H3.right
      have crq : (mapF n fun i => bkP u n t m i n)[q]? = some (sbX u (bk u n t) q m) := by rw [mapF_at hqn]; unfold bkP; rw [if_pos rfl, if_pos hq.symm, hq]
      by_cases hmt : m < t
      · have hjn : q + 1 + m < n := by omega
        have crj : (mapF n fun i => bkP u n t m i n)[q + 1 + m]? = some (bk u n t (q + 1 + m)) := by rw [mapF_at hjn]; unfold bkP; rw [if_pos rfl, if_neg (by omega)]
        have cqj : (mapF n (u q))[q + 1 + m]? = some (u q (q + 1 + m)) := mapF_at hjn
        have hre : ∀ z, M ≤ z → rI z (sbX u (bk u n t) q m - u q (q + 1 + m) * bk u n t (q + 1 + m)) = rI M (sbX u (bk u n t) q (m + 1)) := fun z hz => by
          have := hsf t htn (m + 1) hmt
          rw [hq] at this
          exact rI_le this hz
        have hL : (ratL M (mapF n fun i => bkP u n t m i n)).set q (rI M (sbX u (bk u n t) q (m + 1))) = ratL M (mapF n fun i => bkP u n t (m + 1) i n) := by
          rw [ratL_put, mapF_set]
          congr 1
          refine mapF_congr fun i _ => ?_
          unfold bkP
          rw [if_pos rfl, if_pos rfl, hq]
          by_cases e : i = q
          · rw [if_pos e, if_pos e]
          · rw [if_neg e, if_neg e, if_neg e]
        have HR := H3.putR hL (hrS g H3.mem) hor
        rw [hL] at HR
        simp (disch := omega) only [go_sem, Nat.reduceEqDiff, Nat.reduceBEq, ↓reduceIte, reduceCtorEq, ↓k_appE, t0, t1, t6, t12, t13, hout, hrl, atq, hrq, hul, cqj, hrt, hml, crq, crj, hre, hL]
        (repeat (with_reducible refine Or.inr ?_))
        exact hJ3 (m + 1) _ ⟨(by simp [upd_app, t0] <;> omega), (by simp [upd_app, t1] <;> omega), (by simp [upd_app, t6] <;> omega), (by simp [upd_app, t12] <;> omega), (by simp [upd_app] <;> omega), HR, hnx3, hmt⟩ (by omega)
      · obtain rfl : t = m := by omega
        have cqq : (mapF n (u q))[q]? = some (u q q) := mapF_at hqn
        have hov := w_over (m := M) (n := U) (a := sbX u (bk u n t) q t) (b := u q q) (by omega) (fun e => hdia q hqn (num_zero.1 e))
        have hre : rI (M + U) (sbX u (bk u n t) q t / u q q) = rI M (bk u n (t + 1) q) := by
          have e : bk u n (t + 1) q = sbX u (bk u n t) q t / u q q := by rw [bk]; simp only; rw [if_pos hq.symm, hq]
          rw [← e]
          exact rI_le (hbf (t + 1) htn q hqn) (by omega)
        have hL : (ratL M (mapF n fun i => bkP u n t t i n)).set q (rI M (bk u n (t + 1) q)) = ratL M (mapF n fun i => bkM u n (t + 1) i n) := by
          rw [ratL_put, mapF_set]
          congr 1
          refine mapF_congr fun i _ => ?_
          unfold bkP bkM
          rw [if_pos rfl, if_pos rfl, hq]
          by_cases e : i = q
          · rw [if_pos e, e]
          · rw [if_neg e, if_neg e, bk]; simp only; rw [if_neg (by omega)]
        have HR := H3.putR hL (hrS g H3.mem) hor
        rw [hL] at HR
        simp (disch := omega) only [go_sem, Nat.reduceEqDiff, Nat.reduceBEq, ↓reduceIte, reduceCtorEq, ↓k_appE, t0, t1, t6, t12, t13, hout, hrl, atq, hrq, hul, cqq, hrt, hml, crq, hov, hre, hL]
        (repeat (with_reducible refine Or.inr ?_))
        exact keyJ2 _ ⟨(by simp [upd_app, t0] <;> omega), (by simp [upd_app, t1] <;> omega), (by simp [upd_app, t6] <;> omega), by simp [upd_app]; omega, HR, hnx3, htn⟩ (by omega)
    · obtain rfl : n = t := by omega
      have hneg : (n : Int) - 1 - (n : Int) = -1 := by omega
      rw [hneg] at r12
      simp (disch := omega) only [go_sem, Nat.reduceEqDiff, Nat.reduceBEq, ↓reduceIte, reduceCtorEq, ↓k_appE, r0, r1, r6, r12]
      rw [← hQ]
      refine postE_two (.inl rfl) rfl (by simp [upd_app] <;> omega) (by simp [upd_app] <;> omega) (fun i hi he => ?_) hnx2
      simp only [solY, upd_app]
      by_cases e : i = r
      · rw [if_pos e, e, H2.right]
        congr 1
        exact congrArg (ratL M) (mapF_congr fun i _ => by unfold bkM; rw [if_pos rfl])
      · rw [if_neg e]; exact H2.hold i hi e he
def rowP (f : Nat → Rat) (j : Nat) : Nat → Rat := fun k => if k < j then f k else 0
theorem rowP_one {f : Nat → Rat} (h : f 0 = 1) : (fun i => if i = 0 then 1 else (0 : Rat)) = rowP f 1 := by
  funext i; unfold rowP
  by_cases c : i = 0
  · rw [if_pos c, if_pos (by omega), c, h]
  · rw [if_neg c, if_neg (by omega)]
theorem rowP_next {f : Nat → Rat} {j : Nat} (i : Nat) : rowP f (j + 1) i = if i = j then f j else rowP f j i := by
  unfold rowP
  by_cases c : i = j
  · rw [if_pos c, if_pos (by omega), c]
  · rw [if_neg c]
    by_cases d : i < j
    · rw [if_pos d, if_pos (by omega)]
    · rw [if_neg d, if_neg (by omega)]
theorem rowP_all {f : Nat → Rat} {r : Nat} : mapF r (rowP f r) = mapF r f := mapF_congr fun i hi => by unfold rowP; rw [if_pos hi]
set_option maxHeartbeats 8000000 in
theorem i_relativeU {fr : Nat → AV} {h : Nat → Blk} {nx U M : Nat} {x : MR} {acts : List Bool} (hU1 : 3000 ≤ U) (hU2 : U ≤ 1000000000) (hUM : U ≤ M) (hM : M ≤ 50000000000) (hgI : ∀ k, k ≤ x.room + 1 → ∀ u, gI (relM x (actF acts)) (x.room + 1) k = some u → FitM U u (x.room + 1) (x.room + 2))
    (hbk : ∀ u, gI (relM x (actF acts)) (x.room + 1) (x.room + 1) = some u → (∀ t, t ≤ x.room + 1 → ∀ i, i < x.room + 1 → fits M (bk u (x.room + 1) t i)) ∧ ∀ t, t < x.room + 1 → ∀ m, m ≤ t → fits M (sbX u (bk u (x.room + 1) t) (x.room + 1 - 1 - t) m)) (h1 : 1 ≤ x.room) (h8 : x.room ≤ 8) (ha : acts.length = x.room)
    (f1 : fits 700 x.come) (f2 : fits 700 x.serve) (f3 : fits 700 x.reward) (f4 : fits 700 x.cost) (p1 : 0 < x.come) (p2 : 0 < x.serve) (p3 : x.come + x.serve ≤ 1) :
    InOk Tryz.prog ⟨fr, h, nx⟩ 33 [x.iv, .sl 4 (boolA acts) [] false] (.tup [lI M (relL x (actF acts)), rI M (relG x (actF acts))]) ⟨fr, h, nx⟩ := by
  refine inOkS0 (W := ⟨fun g => g == 65 || g == 50 || g == 62, fun q => if q = 13 then some [(1, 6)] else if q = 16 then some [(3, 5), (3, 7)] else none⟩) hm' Tryz.func33 rfl (by kernel_rfl) (Nat.le_of_ble_eq_true rfl) (go_start ?_)
  generalize hQ : PostS Tryz.prog Tryz.f33 _ _ _ _ = Q
  have hB : polB = 3000 := rfl
  have hMf := relM_fits (act := actF acts) f1 f2 f3 f4 h8
  obtain ⟨u, w, hu, hw, hbw⟩ := rel_go (act := actF acts) p1 p2 p3
  have hre : ∀ n j k, n ≤ x.room → j ≤ x.room + 1 → 3000 ≤ k → rI k (relM x (actF acts) n j) = rI U (relM x (actF acts) n j) := fun n j k hn hj hk => rI_re (fits_mono (hMf n j (by omega) (by omega)) hk) (fits_mono (hMf n j (by omega) (by omega)) (by omega))
  have hpf := fun n j => pol_fits (acts := acts) f1 f2 n j
  have r0 := @relM_zero x (actF acts)
  have r1 := @relM_last x (actF acts)
  have r2 := @relM_dia x acts
  have r3 := @relM_off x acts
  have hrg : ∀ n, rgtF x (actF acts) n = if n < x.room ∧ actF acts n = true then -(x.cost * ((n : Int) : Rat)) + x.come * x.reward else -(x.cost * ((n : Int) : Rat)) := fun n => rfl
  have hL : relL x (actF acts) = mapF (x.room + 1) fun i => if i = 0 then 0 else w i (x.room + 1) / w i i := by unfold relL relF; rw [hw]
  have hG : relG x (actF acts) = w 0 (x.room + 1) / w 0 0 := by unfold relG; rw [hw]
  rw [hL, hG] at hQ
  obtain ⟨r, hr⟩ : ∃ r, x.room = r := ⟨_, rfl⟩
  have hch := fun (fr : Nat → AV) h nx => i_chain (x := x) (acts := acts) (fr := fr) (h := h) (nx := nx) h1 h8 ha f1 f2
  simp only [hr] at h1 h8 hQ ha hgI hbk hu hw hbw hre r1 r2 r3 hrg hch
  clear hL hG hMf
  generalize polM x acts = pm at *
  generalize relM x (actF acts) = rm at *
  have hfr : ∀ n, n ≤ r → fits 2165 (rgtF x (actF acts) n) := fun n hn => rgt_fits f1 f3 f4 (by omega)
  have h764 : ∀ n : Nat, n ≤ r → fits 764 (-(x.cost * ((n : Int) : Rat))) := fun n hn => fits_neg (fits_mul (m := 700) (n := 64) f4 (nat_fits (by omega)) (by decide))
  generalize rgtF x (actF acts) = rg at *
  have e1 : rI 64 1 = rI U 1 := rI_to (one_fits _ (by decide)) (by omega)
  simp (disch := omega) only [go_sem, Nat.reduceEqDiff, Nat.reduceBEq, ↓reduceIte, reduceCtorEq, ↓k_appE]
  refine callW_I (hch _ _ _) (by kernel_rfl) (.inl rfl) ?_
  have hcl : (rowsS 53 (r + 1) fun n => ratL polB (mapF (r + 1) (pm n))).length = r + 1 := rowsS_len
  have hca : ∀ i, i < r + 1 → (rowsS 53 (r + 1) fun n => ratL polB (mapF (r + 1) (pm n)))[i]? = some (.sl 53 (ratL polB (mapF (r + 1) (pm i))) [] false) := fun i hi => rowsS_at hi
  generalize (rowsS 53 (r + 1) fun n => ratL polB (mapF (r + 1) (pm n))) = cl at *
  simp (disch := omega) only [go_sem, Nat.reduceEqDiff, Nat.reduceBEq, ↓reduceIte, reduceCtorEq, ↓k_appE, hcl]
  refine k_loop (fun (⟨n, rid⟩ : Nat × (Nat → Nat)) st => st.fr 1 = .sl 4 (boolA acts) [] false ∧ st.fr 2 = .ptr nx 1 0 0 ∧ st.fr 5 = .ptr (nx + 1) 1 0 0 ∧ st.fr 6 = .ref (nx + 2) n 0 n ∧ st.fr 7 = .ref (nx + 3) n 0 n ∧ st.fr 20 = .sl 59 cl [] false ∧ st.fr 21 = .int .i64 ((r + 1 : Nat) : Int) ∧ st.fr 22 = .int .i64 n ∧
      st.h nx = ⟨55, [x.iv], true, false, true⟩ ∧ st.h (nx + 1) = ⟨53, [.agg [.bool false, .nil, .nil]], true, false, true⟩ ∧
      st.h (nx + 2) = ⟨59, refsL rid n (r + 1), (n == 0), true, true⟩ ∧ st.h (nx + 3) = ⟨53, ratL M (mapF n fun i => rm i (r + 1)), (n == 0), true, true⟩ ∧ RowsG 53 (ratL U) st.h (nx + 4) st.nx (nx + 2) rid n (r + 1) rm true ∧ (∀ i, i < nx → st.h i = h i) ∧ nx + 4 ≤ st.nx ∧ n ≤ r + 1) (fun (⟨n, _⟩ : Nat × (Nat → Nat)) => r + 1 - n) (0, fun i => i)
    ⟨(by simp [upd_app] <;> omega), (by simp [upd_app] <;> omega), (by simp [upd_app] <;> omega), (by simp [upd_app] <;> omega), (by simp [upd_app] <;> omega), (by simp [upd_app] <;> omega), (by simp [upd_app] <;> omega), (by simp [upd_app] <;> omega), by simp (disch := omega) only [upd_app, ↓reduceIte, if_neg], by simp (disch := omega) only [upd_app, ↓reduceIte, if_neg], by simp (disch := omega) [upd_app, refsL], by simp (disch := omega) [upd_app, mapF, ratL], RowsG.zero, fun i hi => by simp (disch := omega) only [upd_app, if_neg], by simp, by omega⟩ ?_
  rintro ⟨n, rid⟩ ⟨fr1, h2, nx1⟩ ⟨g1, g2, g5, g6, g7, g20, g21, g22, hm0, hm1, hm2, hm3, HR, hold, hnx, hn⟩ J hJ
  simp only at g1 g2 g5 g6 g7 g20 g21 g22 hm0 hm1 hm2 hm3 HR hold hnx
  have hbl : (boolA acts).length = r := by rw [boolA_len, ha]
  by_cases hin : n < r + 1
  · have keyJ := fun rid' => hJ (n + 1, rid')
    clear hJ
    have hcn := hca n hin
    simp (disch := omega) only [go_sem, Nat.reduceEqDiff, Nat.reduceBEq, ↓reduceIte, reduceCtorEq, ↓k_appE, g1, g2, g5, g6, g7, g20, g21, g22, hcl, hcn, hm0, hr]
    (repeat (with_reducible refine Or.inr ?_))
    refine callW_O (c_nothing (n := r + 1) (by omega) (by omega)) (by kernel_rfl) (by simp [AV.pure, AV.pureL]) ratL_pure rfl rfl ?_
    simp only [List.length_nil, Nat.add_zero, List.append_nil, ratL_length, List.length_replicate, zeros_rowI (show 64 ≤ U by omega)]
    have n1 : (nx = nx1) = False := by simp; omega
    have n2 : (nx1 = nx) = False := by simp; omega
    have n3 : (nx + 2 = nx1) = False := by simp; omega
    have n4 : (nx1 = nx + 2) = False := by simp; omega
    have n5 : (nx + 3 = nx1) = False := by simp; omega
    have n6 : (nx1 = nx + 3) = False := by simp; omega
    have hrl : ∀ f : Nat → Rat, (ratL U (mapF (r + 1) f)).length = r + 1 := fun f => by rw [ratL_length, mapF_len]
    have atk : ∀ (f : Nat → Rat) k, k < r + 1 → (mapF (r + 1) f)[k]? = some (f k) := fun f k hk => mapF_at hk
    have hupd : ∀ z w : Blk, upd (upd h2 nx1 z) nx1 w = upd h2 nx1 w := by intro z w; funext j; simp only [upd_app]; split <;> rfl
    have hs0 : (ratL U (mapF (r + 1) fun _ => 0)).set 0 (rI U 1) = ratL U (mapF (r + 1) (rowP (rm n) 1)) := by
      rw [← rowP_one r0]; exact rowI_put rfl rfl fun i => rfl
    have tz : Int.toNat 0 = 0 := rfl
    have at0 : (mapF (r + 1) fun _ => (0 : Rat))[0]? = some 0 := mapF_at (by omega)
    simp (disch := omega) only [go_sem, Nat.reduceEqDiff, Nat.reduceBEq, ↓reduceIte, reduceCtorEq, ↓k_appE, g1, g2, g5, g6, g7, g20, g21, g22, n1, n2, e1, hrl, hupd, hs0, mapF_len, at0, tz]
    (repeat (with_reducible refine Or.inr ?_))
    refine k_loop (fun (j : Nat) st => st.fr 1 = .sl 4 (boolA acts) [] false ∧ st.fr 2 = .ptr nx 1 0 0 ∧ st.fr 5 = .ptr (nx + 1) 1 0 0 ∧ st.fr 6 = .ref (nx + 2) n 0 n ∧ st.fr 7 = .ref (nx + 3) n 0 n ∧ st.fr 20 = .sl 59 cl [] false ∧ st.fr 21 = .int .i64 ((r + 1 : Nat) : Int) ∧ st.fr 22 = .int .i64 n ∧
      st.fr 8 = .int .i64 n ∧ st.fr 9 = .sl 53 (ratL polB (mapF (r + 1) (pm n))) [] false ∧ st.fr 10 = .ref nx1 (r + 1) 0 (r + 1) ∧ st.fr 11 = .int .i64 j ∧ st.h = upd h2 nx1 ⟨53, ratL U (mapF (r + 1) (rowP (rm n) j)), true, true, true⟩ ∧ st.nx = nx1 + 1 ∧ 1 ≤ j ∧ j ≤ r + 1) (fun j => r + 1 - j) 1
      ⟨(by simp [upd_app, g1] <;> omega), (by simp [upd_app, g2] <;> omega), (by simp [upd_app, g5] <;> omega), (by simp [upd_app, g6] <;> omega), (by simp [upd_app, g7] <;> omega), (by simp [upd_app, g20] <;> omega), (by simp [upd_app, g21] <;> omega), (by simp [upd_app, g22] <;> omega), (by simp [upd_app] <;> omega), (by simp [upd_app] <;> omega), (by simp [upd_app] <;> omega), (by simp [upd_app] <;> omega), rfl, rfl, Nat.le_refl _, by omega⟩ ?_
    rintro j ⟨fr2, h3, nx2⟩ ⟨s1, s2, s5, s6, s7, s20, s21, s22, s8, s9, s10, s11, eh, enx, hj1, hj⟩ J2 hJ2
    simp only at s1 s2 s5 s6 s7 s20 s21 s22 s8 s9 s10 s11 eh enx
    subst eh enx
    have hpl : (ratL polB (mapF (r + 1) (pm n))).length = r + 1 := by rw [ratL_length, mapF_len]
    by_cases hjr : j < r + 1
    · have key := hJ2 (j + 1)
      clear hJ2
      have hpj : (mapF (r + 1) (pm n))[j]? = some (pm n j) := mapF_at hjr
      have hrj : (mapF (r + 1) (rowP (rm n) j))[j]? = some (rowP (rm n) j j) := mapF_at hjr
      by_cases hnj : n = j
      · subst hnj
        obtain ⟨q1, hq1⟩ : ∃ q1 : Nat → Rat, q1 = fun i => if i = n then -pm n n else rowP (rm n) n i := ⟨_, rfl⟩
        have hq1n : q1 n = -pm n n := by rw [hq1]; simp
        have ha1 : (mapF (r + 1) q1)[n]? = some (-pm n n) := by rw [mapF_at hjr, hq1n]
        have hv0 : rI polB (-pm n n) = rI U (-pm n n) := rI_to (fits_neg (hpf n n)) (by omega)
        have hs1 : (ratL U (mapF (r + 1) (rowP (rm n) n))).set n (rI U (-pm n n)) = ratL U (mapF (r + 1) q1) := rowI_put hq1n.symm rfl fun i => by rw [hq1]
        have hv2 : ∀ k, 3000 ≤ k → rI k (-pm n n + 1) = rI U (rm n n) := fun k hk => by
          have := hre n n k (by omega) (by omega) hk
          rw [← this, r2 hj1 (by omega)]
        have hs2 : (ratL U (mapF (r + 1) q1)).set n (rI U (rm n n)) = ratL U (mapF (r + 1) (rowP (rm n) (n + 1))) := rowI_put (by rw [rowP_next]; simp) rfl fun i => by
          rw [rowP_next, hq1]; by_cases c : i = n <;> simp [c]
        simp (disch := omega) only [go_sem, Nat.reduceEqDiff, Nat.reduceBEq, ↓reduceIte, reduceCtorEq, ↓k_appE, s1, s2, s5, s6, s7, s20, s21, s22, s8, s9, s10, s11, n1, n2, hm0, hr, hpl, hpj, hrj, ha1, hrl, mapF_len, hv0, hs1, hv2, hs2, hupd, beq_self_eq_true, decide_true]
        (repeat (with_reducible refine Or.inr ?_))
        exact key _ ⟨(by simp [upd_app, s1] <;> omega), (by simp [upd_app, s2] <;> omega), (by simp [upd_app, s5] <;> omega), (by simp [upd_app, s6] <;> omega), (by simp [upd_app, s7] <;> omega), (by simp [upd_app, s20] <;> omega), (by simp [upd_app, s21] <;> omega), (by simp [upd_app, s22] <;> omega), (by simp [upd_app, s8] <;> omega), (by simp [upd_app, s9] <;> omega), (by simp [upd_app, s10] <;> omega), (by simp [upd_app] <;> omega), rfl, rfl, by omega, hjr⟩ (by omega)
      · have hnj' : ((j : Int) == (n : Int)) = false := by simp; omega
        have hv1 : rI polB (-pm n j) = rI U (rm n j) := by
          have := hre n j polB (by omega) (by omega) (by omega)
          rw [← this, r3 hj1 (by omega) (by omega)]
        have hs1 : (ratL U (mapF (r + 1) (rowP (rm n) j))).set j (rI U (rm n j)) = ratL U (mapF (r + 1) (rowP (rm n) (j + 1))) := rowI_put (by rw [rowP_next]; simp) rfl fun i => rowP_next i
        simp (disch := omega) only [go_sem, Nat.reduceEqDiff, Nat.reduceBEq, ↓reduceIte, reduceCtorEq, ↓k_appE, s1, s2, s5, s6, s7, s20, s21, s22, s8, s9, s10, s11, n1, n2, hm0, hr, hpl, hpj, hrj, hrl, mapF_len, hv1, hs1, hupd]
        (repeat (with_reducible refine Or.inr ?_))
        exact key _ ⟨(by simp [upd_app, s1] <;> omega), (by simp [upd_app, s2] <;> omega), (by simp [upd_app, s5] <;> omega), (by simp [upd_app, s6] <;> omega), (by simp [upd_app, s7] <;> omega), (by simp [upd_app, s20] <;> omega), (by simp [upd_app, s21] <;> omega), (by simp [upd_app, s22] <;> omega), (by simp [upd_app, s8] <;> omega), (by simp [upd_app, s9] <;> omega), (by simp [upd_app, s10] <;> omega), (by simp [upd_app] <;> omega), rfl, rfl, by omega, hjr⟩ (by omega)
    · obtain rfl : j = r + 1 := by omega
      rw [rowP_all]
      have hol : (refsL rid n (r + 1)).length = n := refsL_len
      have hrl2 : (ratL M (mapF n fun i => rm i (r + 1))).length = n := by rw [ratL_length, mapF_len]
      have k1 : (nx = nx1 + 1) = False := by simp; omega
      have k2 : (nx1 + 1 = nx) = False := by simp; omega
      have k3 : (nx + 2 = nx1 + 1) = False := by simp; omega
      have k4 : (nx1 + 1 = nx + 2) = False := by simp; omega
      have k5 : (nx + 3 = nx1 + 1) = False := by simp; omega
      have k6 : (nx1 + 1 = nx + 3) = False := by simp; omega
      have hsr : ratL M (mapF n fun i => rm i (r + 1)) ++ [rI M (rm n (r + 1))] = ratL M (mapF (n + 1) fun i => rm i (r + 1)) := by rw [mapF_succ, ratL_snoc]
      have hso : refsL rid n (r + 1) ++ [.ref nx1 (r + 1) 0 (r + 1)] = refsL (ridS rid n nx1) (n + 1) (r + 1) := refsL_grow
      have hz1 : (n + 1 == 0) = false := by simp
      have hwn : CW Tryz.prog 48 [.int .i64 n] (rI 64 ((n : Int) : Rat)) := w_whole (n := n) (by omega) (by omega)
      by_cases c : n < r
      · have hak := act_at (acts := acts) (n := n) (by omega)
        cases hac : actF acts n with
        | true =>
          rw [hac] at hak
          have hv : rI (764 + 1400 + 1) (-(x.cost * ((n : Int) : Rat)) + x.come * x.reward) = rI M (rm n (r + 1)) := by
            have := hfr n (by omega)
            rw [r1]
            rw [hrg, if_pos ⟨c, hac⟩] at this ⊢
            exact rI_to this (by omega)
          simp (disch := omega) only [go_sem, Nat.reduceEqDiff, Nat.reduceBEq, ↓reduceIte, reduceCtorEq, ↓k_appE, s1, s2, s5, s6, s7, s20, s21, s22, s8, s9, s10, s11, n1, n2, n3, n4, n5, n6, hm0, hr, hm2, hm3, hol, hrl2, k1, k2, k3, k4, k5, k6, hsr, hso, hbl, boolA_at, reach, List.length_cons, List.length_nil, hak, hwn, hv]
          (repeat (with_reducible refine Or.inr ?_))
          exact keyJ (ridS rid n nx1) _ ⟨(by simp [upd_app, s1] <;> omega), (by simp [upd_app, s2] <;> omega), (by simp [upd_app, s5] <;> omega), (by simp [upd_app] <;> omega), (by simp [upd_app] <;> omega), (by simp [upd_app, s20] <;> omega), (by simp [upd_app, s21] <;> omega), (by simp [upd_app] <;> omega), by simp (disch := omega) only [upd_app, ↓reduceIte, if_neg, hm0], by simp (disch := omega) only [upd_app, ↓reduceIte, if_neg, hm1], by simp (disch := omega) only [upd_app, ↓reduceIte, if_neg, if_pos, hz1], by simp (disch := omega) only [upd_app, ↓reduceIte, if_neg, if_pos, hz1],
            HR.add (by simp (disch := omega) only [upd_app, ↓reduceIte, if_neg, if_pos]) (fun i h1 h2 h3 => by simp (disch := omega) only [upd_app, if_neg]) (by omega) (by omega) (by simp only; omega) (by omega), fun i hi => by simp (disch := omega) only [upd_app, if_neg, hold i hi], by simp only; omega, by omega⟩ (by simp only; omega)
        | false =>
          rw [hac] at hak
          have hv : rI 764 (-(x.cost * ((n : Int) : Rat))) = rI M (rm n (r + 1)) := by
            have := h764 n (by omega)
            rw [r1, hrg, if_neg (by simp [hac])]
            exact rI_to this (by omega)
          simp (disch := omega) only [go_sem, Nat.reduceEqDiff, Nat.reduceBEq, ↓reduceIte, reduceCtorEq, ↓k_appE, s1, s2, s5, s6, s7, s20, s21, s22, s8, s9, s10, s11, n1, n2, n3, n4, n5, n6, hm0, hr, hm2, hm3, hol, hrl2, k1, k2, k3, k4, k5, k6, hsr, hso, hbl, boolA_at, reach, List.length_cons, List.length_nil, hak, hwn, hv]
          (repeat (with_reducible refine Or.inr ?_))
          exact keyJ (ridS rid n nx1) _ ⟨(by simp [upd_app, s1] <;> omega), (by simp [upd_app, s2] <;> omega), (by simp [upd_app, s5] <;> omega), (by simp [upd_app] <;> omega), (by simp [upd_app] <;> omega), (by simp [upd_app, s20] <;> omega), (by simp [upd_app, s21] <;> omega), (by simp [upd_app] <;> omega), by simp (disch := omega) only [upd_app, ↓reduceIte, if_neg, hm0], by simp (disch := omega) only [upd_app, ↓reduceIte, if_neg, hm1], by simp (disch := omega) only [upd_app, ↓reduceIte, if_neg, if_pos, hz1], by simp (disch := omega) only [upd_app, ↓reduceIte, if_neg, if_pos, hz1],
            HR.add (by simp (disch := omega) only [upd_app, ↓reduceIte, if_neg, if_pos]) (fun i h1 h2 h3 => by simp (disch := omega) only [upd_app, if_neg]) (by omega) (by omega) (by simp only; omega) (by omega), fun i hi => by simp (disch := omega) only [upd_app, if_neg, hold i hi], by simp only; omega, by omega⟩ (by simp only; omega)
      · have hv : rI 764 (-(x.cost * ((n : Int) : Rat))) = rI M (rm n (r + 1)) := by
          have := h764 n (by omega)
          rw [r1, hrg, if_neg (fun h => c h.1)]
          exact rI_to this (by omega)
        simp (disch := omega) only [go_sem, Nat.reduceEqDiff, Nat.reduceBEq, ↓reduceIte, reduceCtorEq, ↓k_appE, s1, s2, s5, s6, s7, s20, s21, s22, s8, s9, s10, s11, n1, n2, n3, n4, n5, n6, hm0, hr, hm2, hm3, hol, hrl2, k1, k2, k3, k4, k5, k6, hsr, hso, hbl, boolA_at, reach, List.length_cons, List.length_nil, hwn, hv]
        (repeat (with_reducible refine Or.inr ?_))
        exact keyJ (ridS rid n nx1) _ ⟨(by simp [upd_app, s1] <;> omega), (by simp [upd_app, s2] <;> omega), (by simp [upd_app, s5] <;> omega), (by simp [upd_app] <;> omega), (by simp [upd_app] <;> omega), (by simp [upd_app, s20] <;> omega), (by simp [upd_app, s21] <;> omega), (by simp [upd_app] <;> omega), by simp (disch := omega) only [upd_app, ↓reduceIte, if_neg, hm0], by simp (disch := omega) only [upd_app, ↓reduceIte, if_neg, hm1], by simp (disch := omega) only [upd_app, ↓reduceIte, if_neg, if_pos, hz1], by simp (disch := omega) only [upd_app, ↓reduceIte, if_neg, if_pos, hz1],
          HR.add (by simp (disch := omega) only [upd_app, ↓reduceIte, if_neg, if_pos]) (fun i h1 h2 h3 => by simp (disch := omega) only [upd_app, if_neg]) (by omega) (by omega) (by simp only; omega) (by omega), fun i hi => by simp (disch := omega) only [upd_app, if_neg, hold i hi], by simp only; omega, by omega⟩ (by simp only; omega)
  · obtain rfl : n = r + 1 := by omega
    have hz0 : (r + 1 == 0) = false := by simp
    rw [hz0] at hm2 hm3
    have hMt : MatH 59 53 (ratL U) h2 (nx + 2) rid (r + 1) (r + 1) rm true false := HR.mat hm2
    have hS : ∀ i ∈ (List.range (r + 1)).map rid, nx + 4 ≤ i ∧ i < nx1 ∧ i ≠ nx + 2 := fun i hi => by
      obtain ⟨k, hk, rfl⟩ := List.mem_map.1 hi
      exact HR.at_ k (List.mem_range.1 hk)
    have HS : SolH U M h2 h2 nx1 (nx + 2) (nx + 3) (r + 1) rid ((List.range (r + 1)).map rid) rm rm true false false true := ⟨hMt, hm3, fun i hi => List.mem_map.2 ⟨i, List.mem_range.2 hi, rfl⟩, fun i _ _ _ => rfl⟩
    have hsol := fun fr => i_solve (fr := fr) HS (by omega) (by omega) (by omega) (fun i hi => by have := hS i hi; omega) (by omega) (by omega) hM hU2 hgI hbk hUM
    rw [hu] at hsol
    simp only [solX, solE, solY] at hsol
    have hbl2 : mapF (r + 1) (bk u (r + 1) (r + 1)) = mapF (r + 1) fun i => w i (r + 1) / w i i := mapF_congr fun i hi => hbw i hi
    rw [hbl2] at hsol
    have hnm : ∀ i, i < nx ∨ i = nx + 1 ∨ i = nx + 3 → i ∉ (nx + 2) :: (List.range (r + 1)).map rid := fun i hi hm => by
      rcases List.mem_cons.1 hm with e | hm
      · omega
      · have := (hS _ hm).1; omega
    have hc1 : cutH h2 (upd h2 (nx + 3) ⟨53, ratL M (mapF (r + 1) fun i => w i (r + 1) / w i i), false, true, true⟩) nx1 ((nx + 2) :: (List.range (r + 1)).map rid) (nx + 1) = ⟨53, [.agg [.bool false, .nil, .nil]], true, false, true⟩ := by
      rw [cutH, if_neg (hnm _ (by omega)), if_pos (by omega), upd_app, if_neg (by omega)]; exact hm1
    have hc3 : cutH h2 (upd h2 (nx + 3) ⟨53, ratL M (mapF (r + 1) fun i => w i (r + 1) / w i i), false, true, true⟩) nx1 ((nx + 2) :: (List.range (r + 1)).map rid) (nx + 3) = ⟨53, ratL M (mapF (r + 1) fun i => w i (r + 1) / w i i), false, true, true⟩ := by
      rw [cutH, if_neg (hnm _ (by omega)), if_pos (by omega), upd_app, if_pos rfl]
    have hci : ∀ i, i < nx → cutH h2 (upd h2 (nx + 3) ⟨53, ratL M (mapF (r + 1) fun i => w i (r + 1) / w i i), false, true, true⟩) nx1 ((nx + 2) :: (List.range (r + 1)).map rid) i = h i := fun i hi => by
      rw [cutH, if_neg (hnm _ (by omega)), if_pos (by omega), upd_app, if_neg (by omega)]; exact hold i hi
    generalize cutH h2 (upd h2 (nx + 3) ⟨53, ratL M (mapF (r + 1) fun i => w i (r + 1) / w i i), false, true, true⟩) nx1 ((nx + 2) :: (List.range (r + 1)).map rid) = hc at *
    simp (disch := omega) only [go_sem, Nat.reduceEqDiff, Nat.reduceBEq, ↓reduceIte, reduceCtorEq, ↓k_appE, g1, g2, g5, g6, g7, g20, g21, g22]
    refine callW_I (hsol _) (by kernel_rfl) (.inl rfl) ?_
    have k1 : (nx + 3 = nx1) = False := by simp; omega
    have k2 : (nx1 = nx + 3) = False := by simp; omega
    have k3 : (nx + 1 = nx1) = False := by simp; omega
    have k4 : (nx1 = nx + 1) = False := by simp; omega
    have k5 : (nx + 1 = nx + 3) = False := by simp
    have k6 : (nx + 3 = nx + 1) = False := by simp
    have tz : Int.toNat 0 = 0 := rfl
    have hat0 : ∀ f : Nat → Rat, (mapF (r + 1) f)[0]? = some (f 0) := fun f => mapF_at (by omega)
    have e0 : rI 64 0 = rI M 0 := rI_to (zero_fits _ (by decide)) (by omega)
    have hrp : ∀ f : Nat → Rat, (ratL M (mapF (r + 1) f)).set 0 (rI M 0) = ratL M (mapF (r + 1) fun i => if i = 0 then 0 else f i) := fun f => rowI_put (by simp) rfl fun i => rfl
    have hrl : ∀ f : Nat → Rat, (ratL M (mapF (r + 1) f)).length = r + 1 := fun f => by rw [ratL_length, mapF_len]
    have hw0 : CW Tryz.prog 48 [.int .i64 0] (rI 64 0) := w_whole (n := 0) (by omega) (by omega)
    simp (disch := omega) only [go_sem, Nat.reduceEqDiff, Nat.reduceBEq, ↓reduceIte, reduceCtorEq, ↓k_appE, g1, g2, g5, g6, g7, g20, g21, g22, hc1, hc3, k1, k2, k3, k4, k5, k6, hat0, e0, hrp, mapF_len, tz, hrl, hw0]
    (repeat (with_reducible refine Or.inr ?_))
    rw [← hQ]
    exact postS_frozenC (id := nx + 3) (n := r + 1) (id2 := nx + 1) (x := rI M (w 0 (r + 1) / w 0 0)) (.inl rfl) rfl o_iRat (by simp [upd_app] <;> omega) (by simp [upd_app] <;> omega) (by simp (disch := omega) only [upd_app, ↓reduceIte, if_neg, if_pos]) (by simp (disch := omega) only [upd_app, ↓reduceIte, if_neg, if_pos]) ld_iRat (by simp [AV.pure, AV.pureL]) (by simp (disch := omega) only [upd_app, ↓reduceIte, if_neg, if_pos])
      (by simp (disch := omega) only [upd_app, ↓reduceIte, if_neg, if_pos, ratL_length, mapF_len]) (by simp (disch := omega) only [upd_app, ↓reduceIte, if_neg, if_pos]) (by omega) (by simp (disch := omega) only [upd_app, ↓reduceIte, if_neg, if_pos]) (by simp) (fun i hi _ => by simp (disch := omega) only [upd_app, if_neg, hci i hi])

theorem i_relative {fr : Nat → AV} {h : Nat → Blk} {nx : Nat} {x : MR} {acts : List Bool} (h1 : 1 ≤ x.room) (h8 : x.room ≤ 8) (ha : acts.length = x.room)
  (f1 : fits 700 x.come) (f2 : fits 700 x.serve) (f3 : fits 700 x.reward) (f4 : fits 700 x.cost) (p1 : 0 < x.come) (p2 : 0 < x.serve) (p3 : x.come + x.serve ≤ 1) :
  InOk Tryz.prog ⟨fr, h, nx⟩ 33 [x.iv, .sl 4 (boolA acts) [] false] (.tup [lI relB (relL x (actF acts)), rI relB (relG x (actF acts))]) ⟨fr, h, nx⟩ :=
 i_relativeU (U := relU) (M := relB) (by decide) (by decide) (by decide) (by decide) (rel_gI f1 f2 f3 f4 h8) (fun u hu => rel_bk h8 hu (rel_gI f1 f2 f3 f4 h8 _ (Nat.le_refl _) u hu)) h1 h8 ha f1 f2 f3 f4 p1 p2 p3
def actI (o : Option MR) (k : Nat) : AV :=
 match o with
 | some x => .tup [x.iv, .bool (decide (k = x.room))]
 | none => .tup [zeroMI, .bool false]
theorem w_withActs (m : Mdl) (hm0 : m.small) (acts : List Bool) (hl : acts.length ≤ 1000000) : CW Tryz.prog 32 [m.av, .sl 4 (boolA acts) [] false] (actI (modR m) acts.length) := by
  refine cw (by kernel_rfl) (by simp [AV.pure, AV.pureL]) (by unfold actI; cases modR m <;> simp [AV.pure, AV.pureL]) ?_
  have hps := i_modelOf m hm0
  obtain ⟨k, hk⟩ : ∃ k, acts.length = k := ⟨_, rfl⟩
  have hbl : (boolA acts).length = k := by rw [boolA_len, hk]
  rw [hk]
  cases hq : modR m with
  | none =>
    rw [hq] at hps
    rw [actI]
    (refine callOk_of_wpcD (W := ⟨fun _ => false, fun r => if r = 2 then some [(4, 9), (6, 9)] else none⟩) false hm' Tryz.func32 rfl (by kernel_rfl) (Nat.le_of_ble_eq_true rfl) (go_start ?_); generalize hQ : Post Tryz.prog Tryz.f32 _ _ _ _ _ = Q; simp only [stIn, matL, matA, st00])
    simp (disch := omega) only [go_sem, Nat.reduceEqDiff, Nat.reduceBEq, ↓reduceIte, reduceCtorEq, ↓k_appE, hps, hbl]
    (repeat (with_reducible refine Or.inr ?_))
    rw [← hQ]
    exact post_cell (id := 1) (x := zeroMI) (.inl rfl) rfl o_imodel (by simp [upd_app] <;> omega) (by simp [upd_app]) (by simp [upd_app]) ld_imodel (by simp [upd_app] <;> omega) (by simp [AV.pure, AV.pureL]) rfl
  | some x =>
    rw [hq] at hps
    rw [actI]
    by_cases hc : k = x.room
    · rw [decide_eq_true hc]
      (refine callOk_of_wpcD (W := ⟨fun _ => false, fun r => if r = 2 then some [(4, 9), (6, 9)] else none⟩) false hm' Tryz.func32 rfl (by kernel_rfl) (Nat.le_of_ble_eq_true rfl) (go_start ?_); generalize hQ : Post Tryz.prog Tryz.f32 _ _ _ _ _ = Q; simp only [stIn, matL, matA, st00])
      simp (disch := omega) only [go_sem, Nat.reduceEqDiff, Nat.reduceBEq, ↓reduceIte, reduceCtorEq, ↓k_appE, hps, hbl, hc]
      (repeat (with_reducible refine Or.inr ?_))
      rw [← hQ]
      exact post_cell (id := 1) (x := x.iv) (.inl rfl) rfl o_imodel (by simp [upd_app] <;> omega) (by simp [upd_app]) (by simp [upd_app]) ld_imodel (by simp [upd_app] <;> omega) (by simp [AV.pure, AV.pureL]) rfl
    · rw [decide_eq_false hc]
      (refine callOk_of_wpcD (W := ⟨fun _ => false, fun r => if r = 2 then some [(4, 9), (6, 9)] else none⟩) false hm' Tryz.func32 rfl (by kernel_rfl) (Nat.le_of_ble_eq_true rfl) (go_start ?_); generalize hQ : Post Tryz.prog Tryz.f32 _ _ _ _ _ = Q; simp only [stIn, matL, matA, st00])
      simp (disch := omega) only [go_sem, Nat.reduceEqDiff, Nat.reduceBEq, ↓reduceIte, reduceCtorEq, ↓k_appE, hps, hbl]
      (repeat (with_reducible refine Or.inr ?_))
      rw [← hQ]
      exact post_cell (id := 1) (x := x.iv) (.inl rfl) rfl o_imodel (by simp [upd_app] <;> omega) (by simp [upd_app]) (by simp [upd_app]) ld_imodel (by simp [upd_app] <;> omega) (by simp [AV.pure, AV.pureL]) rfl
attribute [go_sem] w_withActs
theorem snapC1 {st : St} {id n : Nat} {bs : List Bool} {ex gr : Bool} (h : st.h id = ⟨4, boolA bs, ex, gr, true⟩) (hn : bs.length = n) : snapL (snapA st 8) [.ref id n 0 n] = some ([.sl 4 (boolA bs) [] false], [id]) := snap_bools (more := []) h hn rfl
theorem matA_own1 {T : Nat} {xs : List AV} {ex : Bool} {fr : Nat → AV} {h : Nat → Blk} {nx : Nat} (hr : AV.pureL xs = true) : matA true (.own T xs [] ex) ⟨fr, h, nx⟩ = (.ref nx xs.length 0 xs.length, ⟨fr, upd h nx ⟨T, xs, ex, true, true⟩, nx + 1⟩) := by
 simp only [matA, matL_pure _ _ _ hr, matL, St.new, List.append_nil, List.length_nil, Nat.add_zero]
theorem c_CloneB {bs : List Bool} (h1 : 1 ≤ bs.length) (h2 : bs.length ≤ 1000) : CallOk Tryz.prog 36 [.sl 4 (boolA bs) [] false] (.own 4 (boolA bs) [] false) [] := by
 obtain ⟨n, hn⟩ : ∃ n, bs.length = n := ⟨_, rfl⟩
 rw [hn] at h1 h2
 have hbl : (boolA bs).length = n := by rw [boolA_len, hn]
 (refine callOk_of_wpc (W := fun _ => false) true hm' Tryz.func36 rfl (by kernel_rfl) (Nat.le_of_ble_eq_true rfl) (go_start ?_); generalize hQ : Post Tryz.prog Tryz.f36 _ _ _ _ _ = Q; simp only [stIn, matL, matA, st00])
 simp (disch := omega) only [go_sem, Nat.reduceEqDiff, Nat.reduceBEq, ↓reduceIte, reduceCtorEq, hbl, reach, List.nil_append]
 rw [← hQ]
 exact post_own (id := 0) (n := n) (len := n) (.inl rfl) rfl (by simp [upd_app, hbl] <;> omega) (by simp [upd_app]) (by simp [upd_app, hbl]) (by simp [upd_app]) (by simp [upd_app]) (Nat.le_refl _) (by simp only [upd_app, ↓reduceIte]; exact List.take_of_length_le (by omega)) (by simp [upd_app]) (by simp [upd_app]) (boolA_pure _) rfl
set_option maxHeartbeats 4000000 in
theorem i_ImproveActs {m : Mdl} {acts : List Bool} (hs : m.small) (hl : acts.length ≤ 1000000) : CallOk Tryz.prog 18 [m.av, .sl 4 (boolA acts) [] false] (optB false (impT m acts)) [] := by
  have hac := w_withActs m hs acts hl
  unfold impT actQ
  cases hq : modR m with
  | none =>
    rw [hq, actI] at hac
    (refine callOk_of_wpc (W := fun g => g == 33 || g == 25 || g == 36) true hm' Tryz.func18 rfl (by kernel_rfl) (Nat.le_of_ble_eq_true rfl) (go_start ?_); generalize hQ : Post Tryz.prog Tryz.f18 _ _ _ _ _ = Q; simp only [stIn, matL, matA, st00])
    simp (disch := omega) only [go_sem, Nat.reduceEqDiff, Nat.reduceBEq, ↓reduceIte, reduceCtorEq, hac]
    (repeat (with_reducible refine Or.inr ?_))
    rw [← hQ]
    exact postB_two (.inl rfl) rfl (by simp [upd_app] <;> omega) (by simp [upd_app] <;> omega) rfl rfl
  | some x =>
    rw [hq, actI] at hac
    obtain ⟨f1, f2, f3, f4, k1, k8, hroom, p1, p2, hrw, hco, p3⟩ := modR_fits hq
    by_cases hc : acts.length = x.room
    · simp only [if_pos hc]
      simp only [decide_eq_true hc] at hac
      obtain ⟨M, hM⟩ : ∃ M, relB = M := ⟨_, rfl⟩
      have hMb : M ≤ 50000000000 := by rw [← hM]; decide
      have hrel := fun (fr : Nat → AV) h nx => i_relative (fr := fr) (h := h) (nx := nx) (x := x) (acts := acts) k1 k8 hc f1 f2 f3 f4 p1 p2 p3
      rw [hM] at hrel
      have hvl := relL_len (x := x) (act := actF acts)
      generalize relL x (actF acts) = v at *
      generalize relG x (actF acts) = gg at *
      have hb := c_better (x := x) (v := v) (M := M) hMb k1 k8 hvl
      have hbn := betL_len (x := x) (v := v)
      have hcl := c_CloneB (bs := betL x v) (by omega) (by omega)
      generalize betL x v = bs at *
      (refine callOk_of_wpc (W := fun g => g == 33 || g == 25 || g == 36) true hm' Tryz.func18 rfl (by kernel_rfl) (Nat.le_of_ble_eq_true rfl) (go_start ?_); generalize hQ : Post Tryz.prog Tryz.f18 _ _ _ _ _ = Q; simp only [stIn, matL, matA, st00])
      simp (disch := omega) only [go_sem, Nat.reduceEqDiff, Nat.reduceBEq, ↓reduceIte, reduceCtorEq, hac]
      (repeat (with_reducible refine Or.inr ?_))
      refine callW_I (hrel _ _ _) (by kernel_rfl) (.inl rfl) ?_
      simp (disch := omega) only [go_sem, Nat.reduceEqDiff, Nat.reduceBEq, ↓reduceIte, reduceCtorEq]
      refine callW_O hb (by kernel_rfl) (by simp [AV.pure, AV.pureL]) (boolA_pure _) rfl rfl ?_
      simp only [List.length_nil, Nat.add_zero, List.append_nil, boolA_len, hbn]
      simp (disch := omega) only [go_sem, Nat.reduceEqDiff, Nat.reduceBEq, ↓reduceIte, reduceCtorEq]
      refine callW_X hcl (by kernel_rfl) (snapC1 (ex := false) (gr := true) (by simp [upd_app]) hbn) (by simp [AV.solid, AV.solidL, boolA_solid]) (matA_own1 (boolA_pure bs)) rfl ?_
      simp only [boolA_len, hbn]
      simp (disch := omega) only [go_sem, Nat.reduceEqDiff, Nat.reduceBEq, ↓reduceIte, reduceCtorEq]
      rw [← hQ]
      exact postB_own (id := 4) (n := x.room) (len := x.room) (.inl rfl) rfl (by simp [upd_app] <;> omega) (by simp [upd_app] <;> omega) (by simp [upd_app]) (by simp [upd_app, boolA_len, hbn]) (by simp [upd_app]) (by simp [upd_app]) (Nat.le_refl _) (by simp only [upd_app, if_true]; exact List.take_of_length_le (by rw [boolA_len, hbn]; exact Nat.le_refl _)) (by simp [upd_app]) (by simp [upd_app]) (boolA_pure _) rfl
    · simp only [if_neg hc]
      simp only [decide_eq_false hc] at hac
      (refine callOk_of_wpc (W := fun g => g == 33 || g == 25 || g == 36) true hm' Tryz.func18 rfl (by kernel_rfl) (Nat.le_of_ble_eq_true rfl) (go_start ?_); generalize hQ : Post Tryz.prog Tryz.f18 _ _ _ _ _ = Q; simp only [stIn, matL, matA, st00])
      simp (disch := omega) only [go_sem, Nat.reduceEqDiff, Nat.reduceBEq, ↓reduceIte, reduceCtorEq, hac]
      (repeat (with_reducible refine Or.inr ?_))
      rw [← hQ]
      exact postB_two (.inl rfl) rfl (by simp [upd_app] <;> omega) (by simp [upd_app] <;> omega) rfl rfl
section
open Go Go.ChangeShapes Go.WideShapes Go.ChangeAt Go.RowKit
inductive Cl where
 | bool
 | int (k : IntKind)
 | str
 | sl (e : Nat) (c : Cl)
def Cl.fit (P : Program) : Cl → TypeId → Prop
 | .bool, t => P.underlying t = some .bool
 | .int k, t => P.underlying t = some (.int k)
 | .str, t => P.underlying t = some .string
 | .sl e c, t => P.underlying t = some (.slice e) ∧ P.cellsOf e = 1 ∧ szT P e = 1 ∧ 0 < P.bytesOf e ∧ c.fit P e
def isC : Cl → AV → Prop
 | .bool, x => ∃ b, x = .bool b
 | .int k, x => ∃ n, x = .int k n ∧ (Lit.int k n).wf = true
 | .str, x => ∃ s, x = .str s ∧ s.length < 4611686018427387904
 | .sl e c, x => ∃ xs, x = .sl e xs [] false ∧ xs.length < 4611686018427387904 ∧ ∀ y ∈ xs, isC c y
def isCL : List Cl → List AV → Prop
 | [], xs => xs = []
 | c :: cs, xs => ∃ x r, xs = x :: r ∧ isC c x ∧ isCL cs r
inductive Ty where
 | cell (c : Cl)
 | st (cs : List Cl)
def isT : Ty → AV → Prop
 | .cell c, x => isC c x
 | .st cs, x => ∃ xs, x = .agg xs ∧ isCL cs xs
def isTL : List Ty → List AV → Prop
 | [], xs => xs = []
 | c :: cs, xs => ∃ x r, xs = x :: r ∧ isT c x ∧ isTL cs r
def stFit (P : Program) : Nat → List Field → List Cl → Prop
 | _, [], [] => True
 | j, f :: fs, c :: cs => f.offset = j ∧ P.cellsOf f.type = 1 ∧ c.fit P f.type ∧ stFit P (j + 1) fs cs
 | _, _, _ => False
def Ty.fit (P : Program) : Ty → TypeId → Prop
 | .cell c, t => c.fit P t
 | .st cs, t => ∃ fs, P.underlying t = some (.struct fs) ∧ P.cellsOf t = fs.size ∧ stFit P 0 fs.toList cs
def tysFit (P : Program) : List Ty → List TypeId → Prop
 | [], [] => True
 | y :: ys, t :: ts => y.fit P t ∧ tysFit P ys ts
 | _, _ => False
theorem isC_one {c : Cl} {x : AV} (h : isC c x) : x.pure = true ∧ x.one = true ∧ x.cells = [x] := by
 induction c generalizing x with
 | bool => obtain ⟨b, rfl⟩ := h; exact ⟨rfl, rfl, rfl⟩
 | int k => obtain ⟨b, rfl, _⟩ := h; exact ⟨rfl, rfl, rfl⟩
 | str => obtain ⟨b, rfl, _⟩ := h; exact ⟨rfl, rfl, rfl⟩
 | sl e c ih =>
  obtain ⟨xs, rfl, hlen, h⟩ := h
  refine ⟨?_, rfl, rfl⟩
  simp only [AV.pure, AV.pureL, Bool.and_true]
  clear hlen
  induction xs with
  | nil => rfl
  | cons y ys ih' => simp only [AV.pureL, Bool.and_eq_true]; exact ⟨(ih (h y (by simp))).1, ih' fun z hz => h z (by simp [hz])⟩
theorem isCL_pure : ∀ {cs : List Cl} {xs : List AV}, isCL cs xs → AV.pureL xs = true
 | [], xs, h => by simp only [isCL] at h; subst h; rfl
 | c :: cs, xs, h => by
  obtain ⟨x, r, rfl, h1, h2⟩ := h
  simp only [AV.pureL, Bool.and_eq_true]; exact ⟨(isC_one h1).1, isCL_pure h2⟩
theorem isT_pure {y : Ty} {x : AV} (h : isT y x) : x.pure = true := by
 cases y with
 | cell c => exact (isC_one h).1
 | st cs => obtain ⟨xs, rfl, h⟩ := h; simp only [AV.pure]; exact isCL_pure h
theorem pick {Q : Nat → Value → AV → Prop} {n : Nat} (h : ∀ i, i < n → ∃ v x, Q i v x) : ∃ (vs : List Value) (xs : List AV), vs.length = n ∧ xs.length = n ∧ ∀ i v x, vs[i]? = some v → xs[i]? = some x → Q i v x := by
  induction n with
  | zero => exact ⟨[], [], rfl, rfl, fun i v x hv => by simp at hv⟩
  | succ n ih =>
    obtain ⟨vs, xs, h1, h2, h3⟩ := ih fun i hi => h i (by omega)
    obtain ⟨v, x, hq⟩ := h n (by omega)
    refine ⟨vs ++ [v], xs ++ [x], by simp [h1], by simp [h2], fun i v' x' hv hx => ?_⟩
    by_cases hi : i < n
    · rw [List.getElem?_append_left (by omega)] at hv hx
      exact h3 i v' x' hv hx
    · have hi' : i = n := by
        have := (List.getElem?_eq_some_iff.1 hv).1
        simp at this
        omega
      subst hi'
      rw [List.getElem?_append_right (by omega), h1, Nat.sub_self] at hv
      rw [List.getElem?_append_right (by omega), h2, Nat.sub_self] at hx
      simp only [List.getElem?_cons_zero, Option.some.injEq] at hv hx
      subst hv; subst hx
      exact hq
theorem blk_of {w : World} {a : Addr} {n : Nat} {vs : List Value} (hn : vs.length = n) (h0 : n ≠ 0) (hc : ∀ i v, vs[i]? = some v → w.cell? (a.add i) = some v) :
    a.spot = none ∧ ∃ c e f, w.heap[a.block]? = some (.cells c e f) ∧ ∀ i v, vs[i]? = some v → c[a.off + i]? = some v := by
  obtain ⟨v0, hv0⟩ : ∃ v, vs[0]? = some v := ⟨vs[0]'(by omega), by simp [List.getElem?_eq_getElem (show 0 < vs.length by omega)]⟩
  have h0 := hc 0 v0 hv0
  simp only [Addr.add, ↓reduceIte, World.cell?] at h0
  split at h0
  · rename_i c e f hb
    split at h0
    · cases h0
    · rename_i hs
      refine ⟨by simpa using hs, c, e, f, hb, fun i v hi => ?_⟩
      by_cases hi0 : i = 0
      · subst hi0
        rw [hv0] at hi; cases hi
        simpa using h0
      · have := hc i v hi
        simp only [Addr.add, if_neg hi0, World.cell?, hb] at this
        simpa using this
  · cases h0
section
variable {H : Type} {enc : TypeId × Value → H} {P : Program} {W : World} {R : Nat → Prop}
theorem open_cell : ∀ (c : Cl) {t : TypeId} {fuel : Nat} {cs : List Value} {d : DataW H} {ps : List MemPlace}, c.fit P t → DataW.trod enc P W 0 (fun _ => true) true fuel t cs = some (d, ps) →
    (∀ n ∈ d.weights P t, n ≤ reachBytes) → (∀ p ∈ ps, R p.block) → ∃ v x, cs = [v] ∧ isC c x ∧ rep P (bare W R) x v ∧ v.cells = #[v]
  | .bool, t, fuel, cs, d, ps, hf, h, hw, hp => by
    obtain ⟨b, rfl, _⟩ := DataW.trod_bool hf h
    exact ⟨_, .bool b, rfl, ⟨b, rfl⟩, by simp [rep], rfl⟩
  | .int k, t, fuel, cs, d, ps, hf, h, hw, hp => by
    obtain ⟨n, rfl, _, h1⟩ := DataW.trod_int hf h
    exact ⟨_, .int k n, rfl, ⟨n, rfl, h1⟩, by simp [rep], rfl⟩
  | .str, t, fuel, cs, d, ps, hf, h, hw, hp => by
    obtain ⟨s, rfl, hx, _⟩ := DataW.trod_string hf h
    simp only [Prod.mk.injEq] at hx
    obtain ⟨rfl, _⟩ := hx
    have := hw s.data.toList.length (by simp [DataW.weights])
    have hr : reachBytes = 140737488351232 := rfl
    exact ⟨_, .str s.data.toList, rfl, ⟨_, rfl, by omega⟩, by simp [rep], rfl⟩
  | .sl e c, t, fuel, cs, d, ps, hf, h, hw, hp => by
    obtain ⟨f1, f2, f3, f4, f5⟩ := hf
    rcases DataW.trod_slice f1 h with ⟨rfl, hx⟩ | ⟨a, len, cap, elems, rest, n, _, rfl, hx, hb, hl, hm, hlen, hel, hsp, _⟩
    · refine ⟨_, .sl e [] [] false, rfl, ⟨[], rfl, by simp, by simp⟩, ?_, rfl⟩
      simp only [rep]
      exact ⟨none, 0, rfl, by simp, by simp, by simp, [], [], rfl, rfl, by simp⟩
    simp only [Prod.mk.injEq] at hx
    obtain ⟨rfl, rfl⟩ := hx
    obtain ⟨hrl, _⟩ := hsp rfl
    rw [f2] at hel hp
    simp only [Nat.mul_one] at hel hp
    have hw1 : len * P.bytesOf e ≤ reachBytes := by
      have := hw ((elems.length + rest.length) * P.bytesOf e) (by simp [DataW.weights, f1])
      exact Nat.le_trans (Nat.mul_le_mul_right _ (by omega)) this
    have hlen' : len < 4611686018427387904 := by
      have hr : reachBytes = 140737488351232 := rfl
      have := Nat.le_mul_of_pos_right len f4
      omega
    have hblk : len ≠ 0 → R a.block := fun hne => hp (.cell a.block (a.off + 0)) (by
      simp only [List.mem_append, MemPlace.row, List.mem_map, List.mem_range]
      exact .inl ⟨0, by omega, rfl⟩)
    have each : ∀ i, i < len → ∃ v x, W.cell? (a.add i) = some v ∧ isC c x ∧ rep P (bare W R) x v ∧ v.cells = #[v] := by
      intro i hi
      have hy := hel i hi
      obtain ⟨y, hy'⟩ : ∃ y, elems[i]? = some y := ⟨elems[i]'(by omega), by simp [List.getElem?_eq_getElem (show i < elems.length by omega)]⟩
      rw [hy', Option.bind_eq_some_iff] at hy
      obtain ⟨cs', hcs, hz⟩ := hy
      have hmem : y ∈ elems := List.mem_of_getElem? hy'
      obtain ⟨v, x, rfl, h2, h3, h4⟩ := open_cell c f5 hz (fun n hn => hw n (by
        simp only [DataW.weights, f1, List.mem_cons, List.mem_append]
        exact .inr (.inl (mem_all hmem hn)))) (fun p hp' => hp p (by
        simp only [List.mem_append, List.mem_flatMap]
        exact .inr ⟨y, .inl hmem, hp'⟩))
      exact ⟨v, x, cell_of_cells?_one hcs, h2, h3, h4⟩
    obtain ⟨vs, xs, k1, k2, k3⟩ := pick each
    have hx : ∀ y ∈ xs, isC c y := by
      intro y hy
      obtain ⟨i, hi⟩ := List.getElem?_of_mem hy
      have hlt : i < vs.length := by have := (List.getElem?_eq_some_iff.1 hi).1; omega
      exact (k3 i vs[i] y (List.getElem?_eq_getElem hlt) hi).2.1
    have hv : ∀ (i : Nat) (v : Value), vs[i]? = some v → W.cell? (a.add i) = some v ∧ v.cells = #[v] := by
      intro i v hi
      have hlt : i < xs.length := by have := (List.getElem?_eq_some_iff.1 hi).1; omega
      have := k3 i v xs[i] hi (List.getElem?_eq_getElem hlt)
      exact ⟨this.1, this.2.2.2⟩
    refine ⟨_, .sl e xs [] false, rfl, ⟨xs, rfl, by omega, hx⟩, ?_, rfl⟩
    simp only [rep]
    refine ⟨some a, cap, by rw [k2], by simpa [k2] using hl, by simp, ?_, vs, [], repL_mk (k1.trans k2.symm) fun i x v h1 h2 => (k3 i v x h2 h1).2.2.1, by simp [repL], fun hne => ?_⟩
    · intro y hy
      rw [List.append_nil] at hy
      have := isC_one (hx y hy)
      simp [AV.el, this.2.1, this.2.2, f3]
    · have hne' : len ≠ 0 := by rw [k2] at hne; simpa using hne
      obtain ⟨hs, cc, ee, ff, hh, hc⟩ := blk_of k1 hne' fun i v hi => (hv i v hi).1
      refine ⟨a.block, a.off, cc, (ee, ff), by cases a; simp_all, hblk hne', hh, fun i v hi => ?_⟩
      rw [List.append_nil] at hi
      rw [(hv i v hi).2, f3]
      refine ⟨by simp, fun j u hj => ?_⟩
      have hj0 : j = 0 ∧ u = v := by cases j <;> simp_all
      obtain ⟨rfl, rfl⟩ := hj0
      simpa using hc i u hi
where
  mem_all {e : TypeId} {y : DataW H × List MemPlace} {n : Nat} : ∀ {elems : List (DataW H × List MemPlace)}, y ∈ elems → n ∈ y.1.weights P e → n ∈ DataW.weightsAll P e (elems.map (·.1))
    | z :: elems, hm, hn => by
      simp only [List.map_cons, DataW.weightsAll, List.mem_append]
      rcases List.mem_cons.1 hm with rfl | hm
      · exact .inl hn
      · exact .inr (mem_all hm hn)
theorem open_fields {n : Nat} {vs : List Value} : ∀ (cs : List Cl) (fs : List Field) (j : Nat) (xs : List (DataW H × List MemPlace)), stFit P j fs cs → vs.length = j + fs.length → xs.length = fs.length →
    (∀ (i : Nat) (f : Field), fs[i]? = some f → DataW.trod enc P W 0 (fun _ => true) true n f.type ((vs.drop f.offset).take (P.cellsOf f.type)) = xs[i]?) →
    (∀ n ∈ DataW.weightsEach P (fs.map (·.type)) (xs.map (·.1)), n ≤ reachBytes) → (∀ p ∈ xs.flatMap (·.2), R p.block) → ∃ avs, isCL cs avs ∧ repL P (bare W R) avs (vs.drop j)
  | [], [], j, xs, _, hl, _, _, _, _ => ⟨[], rfl, by
      have hl : vs.length = j := by simpa using hl
      simp [repL, ← hl]⟩
  | c :: cs, f :: fs, j, y :: xs, ⟨h1, h2, h3, h4⟩, hl, hx, ht, hw, hp => by
    have h0 := ht 0 f rfl
    simp only [List.length_cons] at hl hx
    rw [h1, h2, List.getElem?_cons_zero] at h0
    obtain ⟨v, x, k1, k2, k3, k4⟩ := open_cell (R := R) c h3 h0 (fun n hn => hw n (by simp [DataW.weightsEach, hn])) (fun p hp' => hp p (by simp [hp']))
    have hx' : xs.length = fs.length := by omega
    obtain ⟨avs, q1, q2⟩ := open_fields (vs := vs) cs fs (j + 1) xs h4 (by omega) hx' (fun i f' hi => by simpa using ht (i + 1) f' (by simpa using hi)) (fun n hn => hw n (by simp [DataW.weightsEach, hn])) (fun p hp' => hp p (by
      simp only [List.flatMap_cons, List.mem_append]; exact .inr hp'))
    have hd : vs.drop j = v :: vs.drop (j + 1) := by
      have hj : j < vs.length := by omega
      rw [List.drop_eq_getElem_cons hj] at k1 ⊢
      simp only [List.take_succ_cons, List.take_zero, List.cons.injEq, and_true] at k1
      rw [k1]
    refine ⟨x :: avs, ⟨x, avs, rfl, k2, q1⟩, ?_⟩
    rw [hd]
    exact ⟨v, _, rfl, k3, q2⟩
  | [], _ :: _, _, _, h, _, _, _, _, _ => by simp [stFit] at h
  | _ :: _, [], _, _, h, _, _, _, _, _ => by simp [stFit] at h
  | _ :: _, _ :: _, _, [], _, _, h, _, _, _ => by simp at h
theorem one_okWide {c : Cl} {t : TypeId} {base : Nat} {v : Value} (hf : c.fit P t) (h : Value.okWide P W .any base t v) : v.cells = #[v] := by
 cases c with
 | bool => obtain ⟨b, rfl⟩ := okWide_bool hf h; rfl
 | int k => obtain ⟨b, rfl⟩ := okWide_int hf h; rfl
 | str => obtain ⟨b, rfl⟩ := okWide_string hf h; rfl
 | sl e c => obtain ⟨a, b, d, rfl⟩ := okWide_slice hf.1 h; rfl
theorem open_type {y : Ty} {t : TypeId} {base : Nat} {v : Value} {d : DataW H} {ps : List MemPlace} (hf : y.fit P t) (hok : Value.okWide P W .any base t v) (h : DataW.Trod enc P W 0 (fun _ => true) true t v d ps)
  (hw : ∀ n ∈ d.weights P t, n ≤ reachBytes) (hp : ∀ p ∈ ps, R p.block) : ∃ x, isT y x ∧ rep P (bare W R) x v := by
 obtain ⟨fuel, h⟩ := h
 cases y with
 | cell c =>
  obtain ⟨u, x, k1, k2, k3, k4⟩ := open_cell c hf h hw hp
  rw [one_okWide hf hok] at k1
  simp only [List.cons.injEq, and_true] at k1
  subst k1
  exact ⟨x, k2, k3⟩
 | st cs =>
  obtain ⟨fs, f1, f2, f3⟩ := hf
  obtain ⟨xs, n, _, hx, hl, hlen, hfd⟩ := DataW.trod_struct f1 h
  simp only [Prod.mk.injEq] at hx
  obtain ⟨rfl, rfl⟩ := hx
  simp only [Value.okWide, f1] at hok
  obtain ⟨vs, rfl, _, _⟩ := hok
  obtain ⟨avs, k1, k2⟩ := open_fields (R := R) (vs := vs.toList) cs fs.toList 0 xs f3 (by rw [f2] at hl; simpa [Value.cells] using hl) (by simpa using hlen) (fun i f hi => hfd i f (by simpa using hi)) (by simpa [DataW.weights, f1] using hw) hp
  exact ⟨.agg avs, ⟨avs, rfl, k1⟩, by simp only [rep]; exact ⟨vs.toList, by simp, by simpa using k2⟩⟩
theorem open_all {base : Nat} : ∀ {ys : List Ty} {ts : List TypeId} {vs : List Value} {ds : List (DataW H)} {ps : List MemPlace}, tysFit P ys ts → DataW.TrodAll enc P W 0 (fun _ => true) true ts vs ds ps →
  (∀ (j : Nat) t v, ts[j]? = some t → vs[j]? = some v → Value.okWide P W .any base t v) → (∀ n ∈ DataW.weightsEach P ts ds, n ≤ reachBytes) → (∀ p ∈ ps, R p.block) →
  ∃ xs, isTL ys xs ∧ ownRL P (bare W R) xs vs []
 | [], [], vs, ds, ps, _, h, _, _, _ => by
  obtain ⟨rfl, rfl, rfl⟩ := trodAll_nil h
  exact ⟨[], rfl, by simp [ownRL]⟩
 | y :: ys, t :: ts, vs, ds, ps, ⟨f1, f2⟩, h, hok, hw, hp => by
  obtain ⟨v, vs', d, ds', p, q, rfl, rfl, rfl, h1, h2⟩ := trodAll_cons h
  obtain ⟨x, k1, k2⟩ := open_type (R := R) f1 (hok 0 t v rfl rfl) h1 (fun n hn => hw n (by simp [DataW.weightsEach, hn])) (fun p hp' => hp p (by simp [hp']))
  obtain ⟨xs, k3, k4⟩ := open_all f2 h2 (fun j t v ht hv => hok (j + 1) t v (by simpa using ht) (by simpa using hv)) (fun n hn => hw n (by simp [DataW.weightsEach, hn])) (fun p hp' => hp p (by simp [hp']))
  refine ⟨x :: xs, ⟨x, xs, rfl, k1, k3⟩, ?_⟩
  simp only [ownRL]
  exact ⟨v, vs', [], [], rfl, rfl, ownR_of_pure x v (isT_pure k1) k2, k4⟩
 | [], _ :: _, _, _, _, h, _, _, _, _ => by simp [tysFit] at h
 | _ :: _, [], _, _, _, h, _, _, _, _ => by simp [tysFit] at h
def LawOk (P : Program) (f : FuncId) (ys : List Ty) : Prop := ∀ xs, isTL ys xs → CallOk P f xs (.bool true) []
theorem tab_lt {k : IntKind} {zs : List Int} {g : Nat} (h : Lib.TabIs P W tabName k zs) (hg : P.globalNamed tabName = some g) : g < W.heap.size := by
  unfold Lib.TabIs World.var? at h
  rw [hg, Option.bind_some] at h
  split at h
  · rename_i he; exact lt_of_heap he
  · cases h
theorem LawOk.walk {f : FuncId} {ys : List Ty} {ts : List TypeId} {args : Array Value} {ds : List (DataW H)} {ps : List MemPlace} {base : Nat} (hf : LawOk P f ys) (hy : tysFit P ys ts)
    (h : DataW.TrodAll enc P W 0 (fun _ => true) true ts args.toList ds ps) (hok : ∀ (j : Nat) t v, ts[j]? = some t → args.toList[j]? = some v → Value.okWide P W .any base t v)
    (hw : (DataW.weightsEach P ts ds).all (· ≤ reachBytes) = true) (hlt : ∀ p ∈ ps, p.block < W.heap.size) (htab : ∀ g, P.globalNamed tabName = some g → Lib.TabIs P W tabName .u64 tabNums) :
    Calls P f args W fun e w' => e = .returned (.bool true) ∧ Below W.heap.size W w' := by
  obtain ⟨xs, h1, h2⟩ := open_all (R := fun b => b < W.heap.size) hy h hok (fun n hn => by simpa using List.all_eq_true.1 hw n hn) (fun p hp => hlt p hp)
  have := hf xs h1 W _ _ _ ⟨fun _ h => h, fun g hg => ⟨tab_lt (htab g hg) hg, htab g hg⟩⟩ h2 (by simp)
  rw [Array.toArray_toList] at this
  refine this.mono fun e w' hp => ?_
  obtain ⟨v, I', L', rfl, q1, _, _, _, q5, _⟩ := hp
  have : v = .bool true := by simp only [ownR, rep] at q5; exact q5.2
  exact ⟨by rw [this], q1.os, q1.tape, q1.output, q1.size, fun k hk => q1.same k hk (by simp)⟩
end
section
variable {H : Type} {enc : TypeId × Value → H} {P : Program} {W : World}
theorem trodAll_lt : ∀ {ts : List TypeId} {vs : List Value} {ds : List (DataW H)} {ps : List MemPlace}, DataW.TrodAll enc P W 0 (fun _ => true) true ts vs ds ps → ∀ p ∈ ps, p.block < W.heap.size
  | [], _, _, _, h => by obtain ⟨_, _, rfl⟩ := trodAll_nil h; simp
  | _ :: _, _, _, _, h => by
    obtain ⟨v, vs', d, ds', p, q, rfl, rfl, rfl, ⟨m, h1⟩, h2⟩ := trodAll_cons h
    intro x hx
    rcases List.mem_append.1 hx with hx | hx
    · exact DataW.trod_lt m _ _ _ h1 x hx
    · exact trodAll_lt h2 x hx
theorem trodAll_below {W' : World} (hl : laidOutB P = true) (hb : Below W.heap.size W W') : ∀ {ts : List TypeId} {vs : List Value} {ds : List (DataW H)} {ps : List MemPlace}, ts.all (fun t => P.readableRec t && decide (t < P.types.size)) = true →
  DataW.TrodAll enc P W 0 (fun _ => true) true ts vs ds ps → (∀ p ∈ ps, p.block < W.heap.size) → DataW.TrodAll enc P W' 0 (fun b => decide (b < W.heap.size)) true ts vs ds ps
 | [], _, _, _, _, h, _ => by obtain ⟨rfl, rfl, rfl⟩ := trodAll_nil h; rfl
 | t :: ts, _, _, _, hr, h, hlt => by
  obtain ⟨v, vs', d, ds', p, q, rfl, rfl, rfl, h1, h2⟩ := trodAll_cons h
  simp only [List.all_cons, Bool.and_eq_true, decide_eq_true_eq] at hr
  exact trodAll_cons_mk (Below.trod hl hr.1.1 hr.1.2 h1 hb fun x hx => hlt x (by simp [hx])) (trodAll_below hl hb hr.2 h2 fun x hx => hlt x (by simp [hx]))
theorem trodAll_len : ∀ {ts : List TypeId} {vs : List Value} {ds : List (DataW H)} {ps : List MemPlace}, DataW.TrodAll enc P W 0 (fun _ => true) true ts vs ds ps → ds.length = ts.length
 | [], _, _, _, h => by obtain ⟨_, rfl, _⟩ := trodAll_nil h; rfl
 | _ :: _, _, _, _, h => by
  obtain ⟨v, vs', d, ds', p, q, rfl, rfl, rfl, _, h2⟩ := trodAll_cons h
  simp [trodAll_len h2]
theorem laid_plain {P : Program} {l : List (String × DataW Unit)} {w : World} (hp : (l.filter fun x => x.2.handleName?.isSome) = []) (h : laidMetH P l w) : laidMet P l w := by
 unfold laidMetH at h; rw [hp] at h; exact h
theorem laid_drop {P : Program} {w : World} : ∀ {l : List (String × DataW Unit)} (k : Nat), laidMet P l w → laidMet P (l.drop k) w
 | _, 0, h => h
 | [], _ + 1, h => h
 | _ :: _, k + 1, h => laid_drop k h.tail
theorem tab_of_laid {P : Program} {l : List (String × DataW Unit)} {w : World} {g n : Nat} {t e : TypeId} (k : Nat) (hg : P.globalNamed tabName = some g) (hty : (P.globals[g]?).map (·.type) = some t) (ht : P.underlying t = some (.array n e)) (he : P.underlying e = some (.int .u64))
    (hce : P.cellsOf e = 1) (hct : P.cellsOf t = n) (hp : (l.filter fun x => x.2.handleName?.isSome) = []) (hk : l.drop k = (tabName, Lib.tabData .u64 tabNums) :: l.drop (k + 1)) (h : laidMetH P l w) : ∀ g', P.globalNamed tabName = some g' → Lib.TabIs P w tabName .u64 tabNums := fun _ _ => by
  have h1 := laid_drop k (laid_plain hp h)
  rw [hk] at h1
  exact Lib.tabIs_of_head hg hty ht he hce hct h1
theorem LawOk.lifted {C : Checked} {os : Os} (own : ownKnob C.prog.godebug = none) (started : os.Started) {f : FuncId} {fn : Func} {s : ChangeSpec} {apart : Bool} {X : World → Array Value → Prop} {ys : List Ty}
    {ts : List TypeId} {rt : TypeId} (hf : LawOk C.prog f ys) (hX : ∀ (w w' : World) (args : Array Value), w.heap = w'.heap → X w args → X w' args) (hT : ∀ (w : World) (args : Array Value), X w args → ∀ g, C.prog.globalNamed tabName = some g → Lib.TabIs C.prog w tabName .u64 tabNums) (noInit : C.prog.inits.idxOf? f = none) (hfn : C.prog.funcs[f]? = some fn)
    (hps : fn.params = ts.toArray) (hrs : fn.resultTypes = #[rt]) (hrt : C.prog.underlying rt = some .bool) (hy : tysFit C.prog ys ts) (hl : laidOutB C.prog = true) (hr : ts.all (fun t => C.prog.readableRec t && decide (t < C.prog.types.size)) = true)
    (hv : s.vars = []) (hs : ∀ ds : List (DataW H), ds.length = ts.length → s.fn H ds = { results := [.lit (.bool true)], args := ds })
    (witness : ∃ (w : World) (tape : Tape) (i : Input), w.os = os ∧ (w.forCall tape i).Shaped C.prog ∧ i.vars = [] ∧ Input.okWide C.prog (w.forCall tape i) .any w.heap.size f i ∧
      ((s.pre enc C.prog fn [] apart (w.forCall tape i).memory i.args ∧ X (w.forCall tape i).memory i.args) ∧ sizedMet enc C.prog fn (OpenSpec.ofChange s) apart (w.forCall tape i).memory i.args) ∧ ({} : Assume).holds C.prog (lone (Frame.enter C.prog f i.args .normal) [] (w.forCall tape i))) :
    ReturnsInHanded {} C os f .any (fun w args => (s.pre enc C.prog fn [] apart w args ∧ X w args) ∧ sizedMet enc C.prog fn (OpenSpec.ofChange s) apart w args) (s.post enc C.prog fn apart true false false) := by
  refine returnsInHanded_of_change_and (X := X) hX own started noInit hfn witness ?_
  intro W base args ds gs before hval hW _ hsz hXW _
  have hW' := hW
  obtain ⟨p, q, hA, hV, rfl, hfz, hnd⟩ := hW
  rw [hv] at hV
  obtain ⟨rfl, rfl⟩ := trodVars_none hV
  rw [hps] at hA hsz hval
  have hts : ts.toArray.toList = ts := by simp
  rw [hts] at hA hsz
  have hlt := trodAll_lt hA
  have hvt : s.plain.varTypes C.prog = [] := by simp [ChangeSpec.plain, DataSpec.varTypes, hv]
  rw [hvt, List.append_nil, List.append_nil] at hsz
  refine (hf.walk hy hA (fun j t v ht hv' => hval j t v (by simpa using ht) (by simpa using hv')) hsz hlt (hT W args hXW)).mono fun e W' ⟨he, bel⟩ => ?_
  subst he
  have hsd := hs ds (trodAll_len hA)
  refine ⟨_, rfl, ds, [], _, [], p, [], hW', ?_, ?_, ?_, bel.frame _, fun h => by cases h⟩
  · rw [List.append_nil, hsd, hrs]
    exact trodAll_mk1 (shut_bool hrt _)
  · rw [List.append_nil, hsd, hps, hts]
    exact trodAll_below hl bel hr hA hlt
  · rw [List.append_nil, hsd, hv]
    rfl
end
end
end Go.Proofs.YtgfencjehdbjcaaGreatDoor
