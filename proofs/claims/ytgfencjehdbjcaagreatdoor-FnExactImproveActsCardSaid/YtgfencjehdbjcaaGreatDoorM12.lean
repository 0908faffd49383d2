/- Ground 12. -/
import Derived.Test.YtgfencjehdbjcaaGreatDoorM11

set_option linter.unusedVariables false
set_option linter.unusedSimpArgs false
set_option maxRecDepth 100000
namespace Go.Proofs.YtgfencjehdbjcaaGreatDoor
open Go

theorem piv_congr' {a b : Mx} {k n : Nat} (hk : k ≤ n) (h : ∀ i, a i k = b i k) : piv a k n = piv b k n := by
  obtain ⟨k1, k2, k3, k4⟩ := piv_spec (a := b) (k := k) (n := n) hk
  refine piv_eq k1 k2 (fun j h1 h2 => by rw [h j]; exact k3 j h1 h2) ?_
  by_cases e : piv b k n = n
  · exact .inl e
  · exact .inr (by rw [h]; exact k4 (by omega))
theorem gS_cols {a b : Mx} {n : Nat} (h : ∀ i j, j ≠ n → a i j = b i j) : ∀ k, k ≤ n → match gS a n k, gS b n k with
    | some u, some w => ∀ i j, j ≠ n → u i j = w i j
    | none, none => True
    | _, _ => False
  | 0, _ => h
  | k + 1, hk => by
    have ih := gS_cols h k (by omega)
    rw [gS, gS]
    cases hu : gS a n k with
    | none =>
      cases hw : gS b n k with
      | none => trivial
      | some w => rw [hu, hw] at ih; exact ih.elim
    | some u =>
      cases hw : gS b n k with
      | none => rw [hu, hw] at ih; exact ih.elim
      | some w =>
        rw [hu, hw] at ih
        have hp : piv u k n = piv w k n := piv_congr' (by omega) fun i => ih i k (by omega)
        simp only
        rw [hp]
        by_cases e : piv w k n = n
        · rw [if_pos e, if_pos e]; trivial
        · rw [if_neg e, if_neg e]
          intro i j hj
          have hs : ∀ i j, j ≠ n → swp u k (piv w k n) i j = swp w k (piv w k n) i j := fun i j hj => by rw [swp_row, swp_row]; exact ih _ j hj
          unfold elmS
          rw [hs i j hj, hs i k (by omega), hs k k (by omega), hs k j hj]
theorem slv_back {w : Mx} {n k p : Nat} (hk : k < n) (hp : p < n) (hz : ∀ j, j < k → w p j = 0) {y : Nat → Rat} (hy : ∀ i, i < n → Slv (elmS (swp w k p) k) n y i) : ∀ i, i < n → Slv w n y i := by
  have hkk : swp w k p k = w p := by unfold swp; rw [if_pos rfl]
  have hz' : ∀ j, j < k → swp w k p k j = 0 := fun j hj => by rw [hkk]; exact hz j hj
  have hrow : Slv (swp w k p) n y k := by
    have := hy k hk
    unfold Slv at this ⊢
    have e : ∀ j, elmS (swp w k p) k k j = swp w k p k j := fun j => by unfold elmS; rw [if_neg (fun h => h.1 rfl)]
    simp only [e] at this
    exact this
  have hall : ∀ i, i < n → Slv (swp w k p) n y i := by
    intro i hi
    by_cases e : i = k
    · rw [e]; exact hrow
    · have h1 := hy i hi
      unfold Slv at h1 hrow ⊢
      rw [elmS_at e hz'] at h1
      have h2 : sumN (fun j => elmS (swp w k p) k i j * y j) n = sumN (fun j => swp w k p i j * y j - swp w k p i k / swp w k p k k * (swp w k p k j * y j)) n :=
        sumN_congr fun j _ => by rw [elmS_at e hz']; grind
      rw [h2, sumN_lin, hrow] at h1
      grind
  intro i hi
  by_cases e : i = k
  · have := hall p hp
    unfold Slv at this ⊢
    rw [swp_row] at this
    subst e
    by_cases ep : p = i
    · subst ep; simpa using this
    · simpa [ep] using this
  · by_cases ep : i = p
    · have := hall k hk
      unfold Slv at this ⊢
      rw [swp_row, if_pos rfl] at this
      rw [ep]; exact this
    · have := hall i hi
      unfold Slv at this ⊢
      rw [swp_row, if_neg e, if_neg ep] at this
      exact this
theorem gS_zer {a : Mx} {n k : Nat} {w : Mx} (hk : k ≤ n) (h : gS a n k = some w) : ∀ j, j < k → ∀ i, i ≠ j → w i j = 0 := by
 have := both_all a (n := n) k hk
 rw [h] at this
 cases hu : gI a n k with
 | none => rw [hu] at this; exact this.elim
 | some u => rw [hu] at this; exact this.zer
theorem gS_dia {a : Mx} {n k : Nat} {w : Mx} (hk : k ≤ n) (h : gS a n k = some w) : ∀ j, j < k → w j j ≠ 0 := by
 have := both_all a (n := n) k hk
 rw [h] at this
 cases hu : gI a n k with
 | none => rw [hu] at this; exact this.elim
 | some u => rw [hu] at this; exact this.dia
theorem gS_sol {a : Mx} {n : Nat} {y : Nat → Rat} : ∀ k, k ≤ n → ∀ w, gS a n k = some w → (∀ i, i < n → Slv w n y i) → ∀ i, i < n → Slv a n y i
  | 0, _, w, h, hs => by simp only [gS, Option.some.injEq] at h; subst h; exact hs
  | k + 1, hk, w, h, hs => by
    rw [gS] at h
    cases hv : gS a n k with
    | none => rw [hv] at h; cases h
    | some v =>
      rw [hv] at h
      simp only at h
      split at h
      · cases h
      · rename_i hne
        cases h
        obtain ⟨p1, p2, _, _⟩ := piv_spec (a := v) (k := k) (n := n) (by omega)
        exact gS_sol k (by omega) v hv (slv_back (by omega) (by omega) (fun j hj => gS_zer (by omega) hv j hj _ (by omega)) hs)
theorem gS_stop {a : Mx} {n : Nat} : ∀ k, k ≤ n → gS a n k = none → ∃ j w, j < k ∧ gS a n j = some w ∧ piv w j n = n
  | 0, _, h => by simp [gS] at h
  | k + 1, hk, h => by
    rw [gS] at h
    cases hv : gS a n k with
    | none => obtain ⟨j, w, h1, h2⟩ := gS_stop k (by omega) hv; exact ⟨j, w, by omega, h2⟩
    | some v =>
      rw [hv] at h
      simp only at h
      split at h
      · rename_i e; exact ⟨k, v, by omega, hv, e⟩
      · cases h
theorem gS_right {a : Mx} {n : Nat} (h0 : ∀ i, i < n → a i n = 0) : ∀ k, k ≤ n → ∀ w, gS a n k = some w → ∀ i, i < n → w i n = 0
  | 0, _, w, h => by simp only [gS, Option.some.injEq] at h; subst h; exact h0
  | k + 1, hk, w, h => by
    rw [gS] at h
    cases hv : gS a n k with
    | none => rw [hv] at h; cases h
    | some v =>
      rw [hv] at h
      simp only at h
      split at h
      · cases h
      · rename_i hne
        cases h
        obtain ⟨p1, p2, _, _⟩ := piv_spec (a := v) (k := k) (n := n) (by omega)
        have ih := gS_right h0 k (by omega) v hv
        have hs : ∀ i, i < n → swp v k (piv v k n) i n = 0 := fun i hi => by
          rw [swp_row]; split
          · exact ih _ (by omega)
          · split
            · exact ih _ (by omega)
            · exact ih i hi
        intro i hi
        unfold elmS
        split
        · rw [hs i hi, hs k (by omega)]; grind
        · exact hs i hi
theorem gS_some {a : Mx} {n : Nat} (hns : ∀ y : Nat → Rat, (∀ i, i < n → sumN (fun j => a i j * y j) n = 0) → ∀ k, k < n → y k = 0) : ∃ w, gS a n n = some w := by
  cases hg : gS a n n with
  | some w => exact ⟨w, rfl⟩
  | none =>
    exfalso
    obtain ⟨b, hb⟩ : ∃ b : Mx, b = fun i j => if j = n then 0 else a i j := ⟨_, rfl⟩
    have hab : ∀ i j, j ≠ n → a i j = b i j := fun i j hj => by rw [hb]; simp [hj]
    have hc := gS_cols hab n (Nat.le_refl _)
    rw [hg] at hc
    have hbn : gS b n n = none := by
      cases h : gS b n n with
      | none => rfl
      | some w => rw [h] at hc; exact hc.elim
    obtain ⟨k, w, hk, hw, hp⟩ := gS_stop n (Nat.le_refl _) hbn
    obtain ⟨_, _, hcol, _⟩ := piv_spec (a := w) (k := k) (n := n) (by omega)
    rw [hp] at hcol
    have hz := gS_zer (by omega) hw
    have hd := gS_dia (by omega) hw
    have hr := gS_right (a := b) (n := n) (fun i _ => by rw [hb]; simp) k (by omega) w hw
    obtain ⟨y, hy⟩ : ∃ y : Nat → Rat, y = fun j => if j < k then -(w j k / w j j) else if j = k then 1 else 0 := ⟨_, rfl⟩
    have hyk : y k = 1 := by rw [hy]; simp
    have hylt : ∀ j, j < k → y j = -(w j k / w j j) := fun j hj => by rw [hy]; simp [hj]
    have hygt : ∀ j, k < j → y j = 0 := fun j hj => by rw [hy]; simp [show ¬ j < k by omega, show j ≠ k by omega]
    have hsol : ∀ i, i < n → Slv w n y i := by
      intro i hi
      unfold Slv
      rw [hr i hi]
      by_cases c : i < k
      · have e : ∀ m, k < m → m ≤ n → sumN (fun j => w i j * y j) m = 0 := by
          intro m
          induction m with
          | zero => intro h; omega
          | succ m ih =>
            intro h1 h2
            rw [sumN]
            by_cases e : m = k
            · subst e
              rw [sumN_one (k := i) c (fun j hj hne => by rw [hz j hj i (fun e => hne e.symm)]; grind), hylt i c, hyk]
              have := hd i c
              grind
            · rw [ih (by omega) (by omega), hygt m (by omega)]; grind
        exact e n hk (Nat.le_refl _)
      · refine sumN_zero fun j hj => ?_
        rcases Nat.lt_trichotomy j k with h | h | h
        · rw [hz j h i (by omega)]; grind
        · rw [h, hcol i (by omega) hi]; grind
        · rw [hygt j h]; grind
    have hsb := gS_sol k (by omega) w hw hsol
    have := hns y (fun i hi => by
      have h1 := hsb i hi
      unfold Slv at h1
      rw [show b i n = 0 by rw [hb]; simp] at h1
      rw [← h1]
      exact sumN_congr fun j hj => by rw [hab i j (by omega)]) k hk
    rw [hyk] at this
    exact absurd this (by decide)
theorem gI_some {a : Mx} {n : Nat} {w : Mx} (h : gS a n n = some w) : ∃ u, gI a n n = some u := by
 have := both_all a (n := n) n (Nat.le_refl _)
 rw [h] at this
 cases hu : gI a n n with
 | none => rw [hu] at this; exact this.elim
 | some u => exact ⟨u, rfl⟩
section
variable {P : Program} {W : WP} {f : FuncId} {fn : Func} {c : Code} {args : List AV} {fr : Nat → AV} {h h' : Nat → Blk} {nx : Nat} {eat : List Nat} {st : St} {e : Ex}
theorem postN_two {t u : Tmp} {r s : AV} (he : e = .ret ∨ e = .normal) (hr : fn.results.toList = [.tmp t, .tmp u]) (hv : st.fr t = r) (hw : st.fr u = s) (hp : r.pure = true) (hq : s.pure = true) (hh : ∀ i, i < nx → i ∉ eat → st.h i = h' i) : PostN P fn (.tup [r, s]) h' nx eat e st :=
 ⟨by rcases he with rfl | rfl <;> trivial, ⟨.tup [r, s], [], by rw [hr]; simp [resV, resL, resA, hv, hw], by rw [ownA]; simp [AV.pure, AV.pureL, hp, hq], by simp, by simp⟩, hh⟩
theorem postN_ownB {t u : Tmp} {id n T : Nat} {r : List AV} {ex b : Bool} (he : e = .ret ∨ e = .normal) (hr : fn.results.toList = [.tmp t, .tmp u]) (hv : st.fr t = .ref id n 0 n) (hw : st.fr u = .bool b)
  (hb : st.h id = ⟨T, r, ex, true, true⟩) (hn : r.length = n) (hid : nx ≤ id) (hp : AV.pureL r = true) (hh : ∀ i, i < nx → i ∉ eat → st.h i = h' i) : PostN P fn (.tup [.own T r [] ex, .bool b]) h' nx eat e st := by
 refine ⟨by rcases he with rfl | rfl <;> trivial, ⟨.tup [.ref id n 0 n, .bool b], [id], by rw [hr]; simp [resV, resL, resA, hv, hw], ?_, by simp, by simpa using hid⟩, hh⟩
 have h1 : ownA st 7 (.ref id n 0 n) = some (.own T r [] ex, [id]) := by
  rw [ownA_ref, hb, if_pos ⟨rfl, hn, rfl, Nat.le_refl _, rfl⟩, List.take_of_length_le (by simp only; omega), List.drop_eq_nil_of_le (by simp only; omega), snapLo_pure hp]
  cases ex <;> simp [snapL]
 have h2 : ownA st 7 (.bool b) = some (.bool b, []) := by simp [ownA, AV.pure]
 rw [ownA]
 simp [AV.pure, AV.pureL, snapL, h1, h2]
theorem postS_frozenC {t u : Tmp} {id n T T2 id2 : Nat} {r : List AV} {x y : AV} (he : e = .ret ∨ e = .normal) (hr : fn.results.toList = [.tmp t, .cell u T2]) (hok : okT P T2 = true) (hv : st.fr t = .ref id n 0 n) (hw : st.fr u = .ptr id2 1 0 0)
  (hl2 : (st.h id2).lv = true) (hx2 : (st.h id2).xs = [x]) (hld : ldA P T2 x 0 = some y) (hy : y.pure = true)
  (hlv : (st.h id).lv = true) (hn : (st.h id).xs.length = n) (ht : (st.h id).t = T) (hid : nx ≤ id) (hxs : (st.h id).xs = r) (hp : AV.pureL r = true) (hh : ∀ i, i < nx → i ∉ eat → st.h i = h' i) :
  PostS P fn (.tup [.sl T r [] false, y]) h' nx eat e st := by
 refine ⟨by rcases he with rfl | rfl <;> trivial, ⟨.tup [.ref id n 0 n, y], [id], by rw [hr]; simp [resV, resL, resA, hv, hw, hok, loadA, hl2, hx2, hld], ?_, by simpa using hid⟩, hh⟩
 have h1 := snap_frozen (d := 6) (off := 0) (len := n) hlv hn ht (by omega) (by rw [List.drop_zero, hxs]; exact List.take_of_length_le (by rw [← hxs]; omega)) hp
 have h2 : snapA st 7 y = some (y, []) := snapA_pure hy
 have : snapA st (7 + 1) (.tup [.ref id n 0 n, y]) = some (.tup [.sl T r [] false, y], [id]) := by
  rw [snapA]
  simp [AV.pure, AV.pureL, snapL, h1, h2]
 exact this
end
theorem gS_none {a : Mx} {n : Nat} : ∀ {k m : Nat}, gS a n k = none → k ≤ m → gS a n m = none
  | k, 0, h, hm => by obtain rfl : k = 0 := by omega
                      exact h
  | k, m + 1, h, hm => by
    rcases Nat.lt_or_ge m k with c | c
    · obtain rfl : k = m + 1 := by omega
      exact h
    · rw [gS, gS_none h c]
theorem gS_fail {a : Mx} {n k : Nat} {u : Mx} (hk : k < n) (hu : gS a n k = some u) (hp : piv u k n = n) : gS a n n = none := by
 refine gS_none (k := k + 1) ?_ hk
 rw [gS, hu]; simp [hp]
theorem gS_go {a : Mx} {n k : Nat} {u : Mx} (hu : gS a n k = some u) (hp : piv u k n ≠ n) : gS a n (k + 1) = some (elmS (swp u k (piv u k n)) k) := by
 rw [gS, hu]; simp [hp]
structure SolS (U : Nat) (h0 h : Nat → Blk) (nx0 o n : Nat) (rid : Nat → Nat) (S : List Nat) (w : Mx) (e1 e2 : Bool) : Prop where
 mat : MatH 48 39 (ratM U) h o rid n (n + 1) w e1 e2
 mem : ∀ i, i < n → rid i ∈ S
 hold : ∀ i, i < nx0 → i ∉ o :: S → h i = h0 i
section
variable {U : Nat} {h0 h : Nat → Blk} {nx0 o n : Nat} {rid : Nat → Nat} {S : List Nat} {w w' : Mx} {e1 e2 : Bool}
theorem SolS.congr (H : SolS U h0 h nx0 o n rid S w e1 e2) (hw : ∀ i j, i < n → j < n + 1 → w i j = w' i j) : SolS U h0 h nx0 o n rid S w' e1 e2 := ⟨H.mat.congr hw, H.mem, H.hold⟩
theorem SolS.put {i j : Nat} {x : Rat} (H : SolS U h0 h nx0 o n rid S w e1 e2) (hi : i < n) : SolS U h0 (upd h (rid i) ⟨39, (ratM U (mapF (n + 1) (w i))).set j (rS U x), e1, true, true⟩) nx0 o n rid S (upd2 w i j x) e1 e2 :=
 ⟨H.mat.put ratM_put hi, H.mem, fun k hk h2 => by
  rw [upd_app, if_neg (fun e => h2 (by rw [e]; exact List.mem_cons_of_mem _ (H.mem i hi)))]; exact H.hold k hk h2⟩
theorem SolS.cell {id : Nat} {b : Blk} (H : SolS U h0 h nx0 o n rid S w e1 e2) (hid : nx0 ≤ id) (ho : o < nx0) (hS : ∀ i ∈ S, i < nx0) : SolS U h0 (upd h id b) nx0 o n rid S w e1 e2 :=
 ⟨H.mat.other (by omega) (fun i hi e => by have := hS _ (H.mem i hi); omega), H.mem, fun k hk h2 => by rw [upd_app, if_neg (by omega)]; exact H.hold k hk h2⟩
theorem SolS.swap {k p : Nat} (H : SolS U h0 h nx0 o n rid S w e1 e2) (hk : k < n) (hp : p < n) :
  SolS U h0 (upd h o ⟨48, refsL (swR rid k p) n (n + 1), e2, true, true⟩) nx0 o n (swR rid k p) S (swp w k p) e1 e2 :=
 ⟨H.mat.swap hk hp, swR_mem H.mem hk hp, fun i hi h2 => by rw [upd_app, if_neg (fun e => h2 (by rw [e]; exact List.mem_cons_self ..))]; exact H.hold i hi h2⟩
end
def sS (k i : Nat) : Nat → Bool := fun i' => decide (i' < i ∧ i' ≠ k)
theorem sS_next {k i : Nat} (h : i ≠ k) (i' : Nat) : sS k (i + 1) i' = true ↔ (sS k i i' = true ∨ i' = i) := by simp only [sS, decide_eq_true_eq]; omega
theorem sS_self {k i : Nat} : sS k i i = false := by simp [sS]
theorem sS_piv {k i : Nat} : sS k i k = false := by simp [sS]
theorem sS_k {k : Nat} : sS k (k + 1) = sS k k := by funext i'; simp only [sS]; exact decide_eq_decide.2 (by omega)
theorem sS_first {k : Nat} {b : Mx} {i : Nat} : pel b k (sS k 0) i k = b := by
 have : sS k 0 = fun _ => false := by funext i'; simp only [sS]; exact decide_eq_false (by omega)
 rw [this, pel_first]
theorem sS_last {k n i j : Nat} {b : Mx} (hi : i < n) : pel b k (sS k n) n k i j = elmS b k i j := by
  unfold pel elmS
  by_cases c : i ≠ k ∧ k ≤ j
  · rw [if_pos ⟨.inl (by simp only [sS]; exact decide_eq_true ⟨hi, c.1⟩), c.2⟩, if_pos c]
  · rw [if_neg, if_neg c]
    rintro ⟨h1 | ⟨_, h2⟩, h3⟩
    · simp only [sS, decide_eq_true_eq] at h1; exact c ⟨h1.2, h3⟩
    · omega
theorem i_l03Swap {fr : Nat → AV} {h : Nat → Blk} {nx o n c k p : Nat} {rid : Nat → Nat} {e2 : Bool} (ho : h o = ⟨48, refsL rid n c, e2, true, true⟩) (hk : k < n) (hp : p < n) (hn : n ≤ 1000) :
  InOk Tryz.prog ⟨fr, h, nx⟩ 90 [.ref o n 0 n, .int .i64 k, .int .i64 p] (.tup []) ⟨fr, upd h o ⟨48, refsL (swR rid k p) n c, e2, true, true⟩, nx⟩ := by
 refine inOk_of_wpc (W := fun _ => false) hm' Tryz.func90 rfl (by kernel_rfl) (Nat.le_of_ble_eq_true rfl) (go_start ?_)
 generalize hQ : PostIn Tryz.prog Tryz.f90 _ _ _ = Q
 have hrl : ∀ (f : Nat → Nat), (refsL f n c).length = n := fun _ => refsL_len
 have atk := refsL_at (rid := rid) (c := c) hk
 have atp := refsL_at (rid := rid) (c := c) hp
 obtain ⟨f1, hf1⟩ : ∃ f, (fun j => if j = k then rid p else rid j) = f := ⟨_, rfl⟩
 have q1 : (refsL rid n c).set k (.ref (rid p) c 0 c) = refsL f1 n c := by rw [refsL_set, hf1]
 have q2 := refsL_at (rid := f1) (c := c) hp
 have q3 : (refsL f1 n c).set p (.ref (rid k) c 0 c) = refsL (swR rid k p) n c := by rw [refsL_set, ← hf1]; rfl
 have hupd : ∀ z w : Blk, upd (upd h o z) o w = upd h o w := by intro z w; funext j; simp only [upd_app]; split <;> rfl
 simp (disch := omega) only [go_sem, Nat.reduceEqDiff, Nat.reduceBEq, ↓reduceIte, reduceCtorEq, ho, hrl, atk, atp, q1, q2, q3, hupd]
 (repeat (with_reducible refine Or.inr ?_))
 rw [← hQ]
 exact ⟨trivial, rfl, rfl, rfl⟩
def solZ (U n : Nat) : Option Mx → AV
 | some w => .tup [.own 39 (ratM (U + U) (mapF n fun i => w i n / w i i)) [] false, .bool true]
 | none => .tup [.nil, .bool false]
set_option maxHeartbeats 16000000 in
theorem i_l03Solve {fr : Nat → AV} {h : Nat → Blk} {nx o n U : Nat} {rid : Nat → Nat} {S : List Nat} {a : Mx} {e1 e2 : Bool} (H : SolS U h h nx o n rid S a e1 e2) (ho : o < nx) (hS : ∀ i ∈ S, i < nx ∧ i ≠ o) (h1 : 1 ≤ n) (hn : n ≤ 12)
    (hUM : U ≤ 10000000000) (hU : ∀ k, k ≤ n → ∀ u, gS a n k = some u → FitM U u n (n + 1)) :
    InOk Tryz.prog ⟨fr, h, nx⟩ 58 [.ref o n 0 n] (matA true (solZ U n (gS a n n)) ⟨fr, cutH h h nx (o :: S), nx⟩).1 (matA true (solZ U n (gS a n n)) ⟨fr, cutH h h nx (o :: S), nx⟩).2 := by
  refine inOkN_of_wpcD (W := ⟨fun g => g == 90, fun q => if q = 15 then some [(2, 15), (3, 15), (5, 15), (6, 15), (9, 15), (10, 15), (12, 15), (13, 15)] else none⟩) hm' Tryz.func58 rfl (by kernel_rfl) (Nat.le_of_ble_eq_true rfl) (fun _ _ _ => .inl rfl) (go_start ?_)
  generalize hQ : PostN Tryz.prog Tryz.f58 _ _ _ _ = Q
  have hrl : ∀ (f : Nat → Nat), (refsL f n (n + 1)).length = n := fun _ => refsL_len
  have hul : ∀ (f : Nat → Rat), (ratM U (mapF (n + 1) f)).length = n + 1 := fun _ => by rw [ratM_length, mapF_len]
  simp (disch := omega) only [go_sem, Nat.reduceEqDiff, Nat.reduceBEq, ↓reduceIte, reduceCtorEq, ↓k_appE, hrl, H.mat.outer]
  refine k_loop (fun (⟨k, g, u⟩ : Nat × (Nat → Nat) × Mx) st => st.fr 0 = .ref o n 0 n ∧ st.fr 4 = .int .i64 n ∧ st.fr 5 = .int .i64 k ∧ gS a n k = some u ∧ SolS U h st.h nx o n g S u e1 e2 ∧ nx ≤ st.nx ∧ k ≤ n) (fun (⟨k, g, u⟩ : Nat × (Nat → Nat) × Mx) => n - k) (0, rid, a)
    ⟨(by simp [upd_app] <;> omega), (by simp [upd_app] <;> omega), (by simp [upd_app] <;> omega), rfl, H, Nat.le_refl _, by omega⟩ ?_
  rintro ⟨k, g, u⟩ ⟨fr1, hh, nx1⟩ ⟨g0, g4, g5, hu, H1, hnx, hk⟩ J hJ
  simp only at g0 g4 g5 hu H1 hnx
  by_cases hin : k < n
  · have keyJ := fun y st' => hJ y st'
    clear hJ
    simp (disch := omega) only [go_sem, Nat.reduceEqDiff, Nat.reduceBEq, ↓reduceIte, reduceCtorEq, ↓k_appE, g0, g4, g5]
    refine k_loop (fun (p : Nat) st => st.fr 0 = .ref o n 0 n ∧ st.fr 4 = .int .i64 n ∧ st.fr 5 = .int .i64 k ∧ st.fr 6 = .int .i64 p ∧ st.h = hh ∧ st.nx = nx1 ∧ k ≤ p ∧ p ≤ n ∧ ∀ j, k ≤ j → j < p → u j k = 0) (fun p => n - p) k
      ⟨(by simp [upd_app, g0] <;> omega), (by simp [upd_app, g4] <;> omega), (by simp [upd_app, g5] <;> omega), (by simp [upd_app] <;> omega), rfl, rfl, Nat.le_refl _, hk, fun j h1 h2 => by omega⟩ ?_
    rintro p ⟨fr2, h2, nx2⟩ ⟨r0, r4, r5, r6, eh, enx, hkp, hpn, hz⟩ J2 hJ2
    simp only at r0 r4 r5 r6 eh enx
    subst eh enx
    have hout := H1.mat.outer
    by_cases hp : p < n
    · have hrp := H1.mat.row p hp
      have hat := refsL_at (rid := g) (c := n + 1) hp
      have hck : (mapF (n + 1) (u p))[k]? = some (u p k) := mapF_at (by omega)
      have hsg := w_sZero (m := U) (a := u p k) (by omega)
      by_cases h0 : u p k = 0
      · rw [decide_eq_true h0] at hsg
        simp (disch := omega) only [go_sem, Nat.reduceEqDiff, Nat.reduceBEq, ↓reduceIte, reduceCtorEq, ↓k_appE, r0, r4, r5, r6, hout, hrl, hat, hrp, hul, hck, hsg]
        (repeat (with_reducible refine Or.inr ?_))
        exact hJ2 (p + 1) _ ⟨(by simp [upd_app, r0] <;> omega), (by simp [upd_app, r4] <;> omega), (by simp [upd_app, r5] <;> omega), (by simp [upd_app] <;> omega), rfl, rfl, by omega, hp, fun j h1 h2 => by
          rcases Nat.lt_or_ge j p with c | c
          · exact hz j h1 c
          · obtain rfl : j = p := by omega
            exact h0⟩ (by omega)
      · rw [decide_eq_false h0] at hsg
        have hpv : piv u k n = p := piv_eq hkp hpn hz (.inr h0)
        clear hJ2
        have hgo := gS_go hu (by rw [hpv]; omega)
        rw [hpv] at hgo
        have hbU := (hU k (by omega) u hu).swp hin hp
        have hbE := hU (k + 1) hin _ hgo
        have hbk : swp u k p k k ≠ 0 := by rw [swp_row, if_pos rfl]; exact h0
        have HS := H1.swap hin hp
        simp (disch := omega) only [go_sem, Nat.reduceEqDiff, Nat.reduceBEq, ↓reduceIte, reduceCtorEq, ↓k_appE, r0, r4, r5, r6, hout, hrl, hat, hrp, hul, hck, hsg]
        (repeat (with_reducible refine Or.inr ?_))
        refine callW_I (i_l03Swap (n := n) (c := n + 1) (k := k) (p := p) hout hin hp (by omega)) (by kernel_rfl) (.inl rfl) ?_
        generalize swp u k p = b at *
        generalize swR g k p = g2 at *
        simp (disch := omega) only [go_sem, Nat.reduceEqDiff, Nat.reduceBEq, ↓reduceIte, reduceCtorEq, ↓k_appE, r0, r4, r5, r6]
        refine k_loop (fun (i : Nat) st => st.fr 0 = .ref o n 0 n ∧ st.fr 4 = .int .i64 n ∧ st.fr 5 = .int .i64 k ∧ st.fr 7 = .int .i64 i ∧ SolS U h st.h nx o n g2 S (pel b k (sS k i) i k) e1 e2 ∧ nx ≤ st.nx ∧ i ≤ n) (fun i => n - i) 0
          ⟨(by simp [upd_app, r0] <;> omega), (by simp [upd_app, r4] <;> omega), (by simp [upd_app, r5] <;> omega), (by simp [upd_app] <;> omega), by rw [sS_first]; exact HS, hnx, by omega⟩ ?_
        clear HS hrp hat hck hsg hout
        rintro i ⟨fr3, h3, nx3⟩ ⟨t0, t4, t5, t7, H2, hnx3, hi⟩ J3 hJ3
        simp only at t0 t4 t5 t7 H2 hnx3
        have hout := H2.mat.outer
        by_cases hin3 : i < n
        · have keyJ3 := hJ3 (i + 1)
          clear hJ3
          by_cases hik : i = k
          · simp (disch := omega) only [go_sem, Nat.reduceEqDiff, Nat.reduceBEq, ↓reduceIte, reduceCtorEq, ↓k_appE, t0, t4, t5, t7, hik]
            (repeat (with_reducible refine Or.inr ?_))
            exact keyJ3 _ ⟨(by simp [upd_app, t0] <;> omega), (by simp [upd_app, t4] <;> omega), (by simp [upd_app, t5] <;> omega), by simp [upd_app, hik], by
              have e : pel b k (sS k (i + 1)) (i + 1) k = pel b k (sS k i) i k := by rw [hik, sS_k, pel_begin (i2 := k)]
              rw [e]; exact H2, hnx3, hin3⟩ (by omega)
          · have hri := H2.mat.row i hin3
            have hrk := H2.mat.row k hin
            rw [pel_pivot sS_piv hik] at hrk
            have ati := refsL_at (rid := g2) (c := n + 1) hin3
            have atk := refsL_at (rid := g2) (c := n + 1) hin
            have cik : (mapF (n + 1) (pel b k (sS k i) i k i))[k]? = some (b i k) := by rw [mapF_at (by omega), pel_old sS_self (Nat.le_refl k)]
            have ckk : (mapF (n + 1) (b k))[k]? = some (b k k) := mapF_at (by omega)
            have hsg := w_sZero (m := U) (a := b i k) (by omega)
            by_cases hz0 : b i k = 0
            · rw [decide_eq_true hz0] at hsg
              simp (disch := omega) only [go_sem, Nat.reduceEqDiff, Nat.reduceBEq, ↓reduceIte, reduceCtorEq, ↓k_appE, t0, t4, t5, t7, hout, hrl, ati, hri, hul, cik, hsg]
              (repeat (with_reducible refine Or.inr ?_))
              exact keyJ3 _ ⟨(by simp [upd_app, t0] <;> omega), (by simp [upd_app, t4] <;> omega), (by simp [upd_app, t5] <;> omega), (by simp [upd_app] <;> omega), by
                have e : pel b k (sS k (i + 1)) (i + 1) k = pel b k (sS k i) i k := by rw [pel_begin (i2 := i), ← pel_skip (sS_next hik) hz0]
                rw [e]; exact H2, hnx3, hin3⟩ (by omega)
            · rw [decide_eq_false hz0] at hsg
              have hov := w_sOver (m := U) (n := U) (a := b i k) (b := b k k) (by omega) (fun e => hbk (num_zero.1 e))
              have m1 : (g2 i = nx3) = False := by have := (hS _ (H2.mem i hin3)).1; simp; omega
              have m2 : (g2 k = nx3) = False := by have := (hS _ (H2.mem k hin)).1; simp; omega
              have m3 : (o = nx3) = False := by simp; omega
              have m5 : (nx3 = g2 i) = False := by have := (hS _ (H2.mem i hin3)).1; simp; omega
              obtain ⟨f, hf⟩ : ∃ f, b i k / b k k = f := ⟨_, rfl⟩
              rw [hf] at hov
              simp (disch := omega) only [go_sem, Nat.reduceEqDiff, Nat.reduceBEq, ↓reduceIte, reduceCtorEq, ↓k_appE, t0, t4, t5, t7, hout, hrl, ati, hri, hul, cik, hsg, atk, hrk, ckk, hov, m1, m2, m3]
              (repeat (with_reducible refine Or.inr ?_))
              refine k_loop (fun (j : Nat) st => st.fr 0 = .ref o n 0 n ∧ st.fr 4 = .int .i64 n ∧ st.fr 5 = .int .i64 k ∧ st.fr 7 = .int .i64 i ∧ st.fr 8 = .ptr nx3 1 0 0 ∧ st.fr 9 = .int .i64 j ∧ SolS U h st.h nx o n g2 S (pel b k (sS k i) i j) e1 e2 ∧ st.h nx3 = ⟨39, [rS (U + U) f], true, false, true⟩ ∧ nx3 < st.nx ∧ k ≤ j ∧ j ≤ n + 1) (fun j => n + 1 - j) k
                ⟨(by simp [upd_app, t0] <;> omega), (by simp [upd_app, t4] <;> omega), (by simp [upd_app, t5] <;> omega), (by simp [upd_app, t7] <;> omega), (by simp [upd_app] <;> omega), (by simp [upd_app] <;> omega), (H2.cell hnx3 ho (fun i hi => (hS i hi).1)).cell hnx3 ho (fun i hi => (hS i hi).1), by simp [upd_app], by simp, Nat.le_refl _, by omega⟩ ?_
              clear m1 m2 m3 hout hri hrk
              rintro j ⟨fr4, h4, nx4⟩ ⟨s0, s4, s5, s7, s8, s9, H4, mc, hnx4, hkj, hj⟩ J4 hJ4
              simp only at s0 s4 s5 s7 s8 s9 H4 mc hnx4
              by_cases hjn : j < n + 1
              · have hout4 := H4.mat.outer
                have hri4 := H4.mat.row i hin3
                have hrk4 := H4.mat.row k hin
                rw [pel_pivot sS_piv hik] at hrk4
                have hvU : fits U (b i j - f * b k j) := by
                  have := hbE i j hin3 hjn
                  unfold elmS at this
                  rw [if_pos ⟨hik, hkj⟩, hf] at this
                  exact this
                have cij : (mapF (n + 1) (pel b k (sS k i) i j i))[j]? = some (b i j) := by rw [mapF_at hjn, pel_old sS_self (Nat.le_refl j)]
                have ckj : (mapF (n + 1) (b k))[j]? = some (b k j) := mapF_at hjn
                have hre : ∀ q, U ≤ q → rS q (b i j - f * b k j) = rS U (b i j - f * b k j) := fun q hq => rS_le hvU hq
                have hst := pel_step (u := b) (k := k) (i := i) (j0 := j) (s := sS k i) sS_self hkj
                rw [hf] at hst
                have HP := H4.put (j := j) (x := b i j - f * b k j) hin3
                rw [hst] at HP
                simp (disch := omega) only [go_sem, Nat.reduceEqDiff, Nat.reduceBEq, ↓reduceIte, reduceCtorEq, ↓k_appE, s0, s4, s5, s7, s8, s9, hout4, hrl, ati, hri4, hul, cij, atk, hrk4, ckj, mc, hre]
                (repeat (with_reducible refine Or.inr ?_))
                exact hJ4 (j + 1) _ ⟨(by simp [upd_app, s0] <;> omega), (by simp [upd_app, s4] <;> omega), (by simp [upd_app, s5] <;> omega), (by simp [upd_app, s7] <;> omega), (by simp [upd_app, s8] <;> omega), (by simp [upd_app] <;> omega), HP, by simp only [upd_app, m5, if_false, mc], hnx4, by omega, hjn⟩ (by omega)
              · have ej : j = n + 1 := by omega
                rw [ej] at H4
                have HN := H4.congr (w' := pel b k (sS k (i + 1)) (i + 1) k) (fun i' j' hi' hj' => by rw [pel_done (c := n + 1) (t := sS k (i + 1)) (sS_next hik) i' j' hj', pel_begin])
                simp (disch := omega) only [go_sem, Nat.reduceEqDiff, Nat.reduceBEq, ↓reduceIte, reduceCtorEq, ↓k_appE, s0, s4, s5, s7, s8, s9]
                (repeat (with_reducible refine Or.inr ?_))
                exact keyJ3 _ ⟨(by simp [upd_app, s0] <;> omega), (by simp [upd_app, s4] <;> omega), (by simp [upd_app, s5] <;> omega), (by simp [upd_app, s7] <;> omega), HN, by simp only; omega, hin3⟩ (by omega)
        · obtain rfl : i = n := by omega
          simp (disch := omega) only [go_sem, Nat.reduceEqDiff, Nat.reduceBEq, ↓reduceIte, reduceCtorEq, ↓k_appE, t0, t4, t5, t7]
          exact keyJ (k + 1, g2, elmS b k) _ ⟨(by simp [upd_app, t0] <;> omega), (by simp [upd_app, t4] <;> omega), (by simp [upd_app, t5] <;> omega), hgo, H2.congr (fun i' j hi' _ => sS_last hi'), hnx3, hin⟩ (by simp only; omega)
    · obtain rfl : p = n := by omega
      have hpv : piv u k p = p := piv_eq hkp (Nat.le_refl _) hz (.inl rfl)
      rw [gS_fail hin hu hpv] at hQ
      simp (disch := omega) only [go_sem, Nat.reduceEqDiff, Nat.reduceBEq, ↓reduceIte, reduceCtorEq, ↓k_appE, r0, r4, r5, r6]
      rw [← hQ]
      exact postN_two (.inl rfl) rfl (by simp [upd_app] <;> omega) (by simp [upd_app] <;> omega) rfl rfl (fun i hi he => H1.hold i hi he)
  · obtain rfl : n = k := by omega
    have huU := hU n (Nat.le_refl n) u hu
    have hdia := gS_dia (Nat.le_refl n) hu
    rw [hu] at hQ
    clear hJ
    have m3 : (o = nx1) = False := by simp; omega
    simp (disch := omega) only [go_sem, Nat.reduceEqDiff, Nat.reduceBEq, ↓reduceIte, reduceCtorEq, ↓k_appE, g0, g4, g5]
    refine k_loop (fun (i : Nat) st => st.fr 0 = .ref o n 0 n ∧ st.fr 4 = .int .i64 n ∧ st.fr 10 = .ref nx1 i 0 i ∧ st.fr 11 = .int .i64 i ∧ SolS U h st.h nx o n g S u e1 e2 ∧ st.h nx1 = ⟨39, ratM (U + U) (mapF i fun i => u i n / u i i), (i == 0), true, true⟩ ∧ nx1 < st.nx ∧ i ≤ n) (fun i => n - i) 0
      ⟨(by simp [upd_app, g0] <;> omega), (by simp [upd_app, g4] <;> omega), (by simp [upd_app] <;> omega), (by simp [upd_app] <;> omega), H1.cell hnx ho (fun i hi => (hS i hi).1), by simp [upd_app, ratM, mapF], by simp, by omega⟩ ?_
    rintro i ⟨fr2, h2, nx2⟩ ⟨r0, r4, r10, r11, H2, hm0, hnx2, hi⟩ J2 hJ2
    simp only at r0 r4 r10 r11 H2 hm0 hnx2
    have hel : (ratM (U + U) (mapF i fun i => u i n / u i i)).length = i := by rw [ratM_length, mapF_len]
    by_cases hin2 : i < n
    · have hout := H2.mat.outer
      have hri := H2.mat.row i hin2
      have ati := refsL_at (rid := g) (c := n + 1) hin2
      have cin : (mapF (n + 1) (u i))[n]? = some (u i n) := mapF_at (by omega)
      have cii : (mapF (n + 1) (u i))[i]? = some (u i i) := mapF_at (by omega)
      have hov := w_sOver (m := U) (n := U) (a := u i n) (b := u i i) (by omega) (fun e => hdia i hin2 (num_zero.1 e))
      have hsn : ratM (U + U) (mapF i fun i => u i n / u i i) ++ [rS (U + U) (u i n / u i i)] = ratM (U + U) (mapF (i + 1) fun i => u i n / u i i) := by rw [mapF_succ, ratM_snoc]
      have hz1 : (i + 1 == 0) = false := by simp
      have HC := H2.cell (id := nx1) (b := ⟨39, ratM (U + U) (mapF (i + 1) fun i => u i n / u i i), false, true, true⟩) hnx ho (fun i hi => (hS i hi).1)
      simp (disch := omega) only [go_sem, Nat.reduceEqDiff, Nat.reduceBEq, ↓reduceIte, reduceCtorEq, ↓k_appE, r0, r4, r10, r11, hout, hrl, ati, hri, hul, cin, cii, hov, hm0, hel, reach, hsn]
      (repeat (with_reducible refine Or.inr ?_))
      exact hJ2 (i + 1) _ ⟨(by simp [upd_app, r0] <;> omega), (by simp [upd_app, r4] <;> omega), (by simp [upd_app] <;> omega), (by simp [upd_app] <;> omega), HC, by simp only [upd_app, ↓reduceIte, hz1], by simp only; omega, hin2⟩ (by omega)
    · obtain rfl : n = i := by omega
      simp (disch := omega) only [go_sem, Nat.reduceEqDiff, Nat.reduceBEq, ↓reduceIte, reduceCtorEq, ↓k_appE, r0, r4, r10, r11]
      rw [← hQ]
      have hz0 : (n == 0) = false := by simp; omega
      rw [hz0] at hm0
      exact postN_ownB (id := nx1) (n := n) (.inl rfl) rfl (by simp [upd_app] <;> omega) (by simp [upd_app] <;> omega) (by simp only [hm0]) hel (by omega) (by simp) (fun i hi he => H2.hold i hi he)
theorem arg_max (h : Nat → Rat) : ∀ R : Nat, ∃ m, m ≤ R ∧ (∀ n, n ≤ R → h n ≤ h m) ∧ ∀ n, n < m → h n < h m
  | 0 => ⟨0, Nat.le_refl _, fun n hn => by obtain rfl : n = 0 := by omega
                                           exact Rat.le_refl, fun n hn => absurd hn (Nat.not_lt_zero n)⟩
  | R + 1 => by
    obtain ⟨m, h1, h2, h3⟩ := arg_max h R
    by_cases c : h m < h (R + 1)
    · refine ⟨R + 1, Nat.le_refl _, fun n hn => ?_, fun n hn => ?_⟩
      · rcases Nat.lt_or_ge R n with h' | h'
        · obtain rfl : n = R + 1 := by omega
          exact Rat.le_refl
        · have := h2 n h'; grind
      · have := h2 n (by omega); grind
    · refine ⟨m, by omega, fun n hn => ?_, h3⟩
      rcases Nat.lt_or_ge R n with h' | h'
      · obtain rfl : n = R + 1 := by omega
        exact Rat.not_lt.1 c
      · exact h2 n h'
theorem half_zero {R : Nat} {h : Nat → Rat} {g c s t : Rat} {to : Nat → Nat} (hc : 0 ≤ c) (hs : 0 < s) (_ : 0 ≤ t) (hsum : c + s + t = 1) (h0 : h 0 = 0) (hto : ∀ n, n ≤ R → to n ≤ R)
    (heq : ∀ n, n ≤ R → g + h n - (c * h (to n) + s * h (n - 1) + t * h n) = 0) : g ≤ 0 ∧ (g = 0 → ∀ n, n ≤ R → h n ≤ 0) := by
  obtain ⟨m, h1, h2, h3⟩ := arg_max h R
  have e := heq m h1
  have k1 : 0 ≤ c * (h m - h (to m)) := Rat.mul_nonneg hc (by have := h2 (to m) (hto m h1); grind)
  have k2 : 0 ≤ s * (h m - h (m - 1)) := Rat.mul_nonneg (Rat.le_of_lt hs) (by have := h2 (m - 1) (by omega); grind)
  have e2 : g = -(c * (h m - h (to m))) - s * (h m - h (m - 1)) := by
    have : t = 1 - c - s := by grind
    rw [this] at e
    grind
  refine ⟨by grind, fun hg n hn => ?_⟩
  by_cases c0 : m = 0
  · have := h2 n hn
    rw [c0, h0] at this
    exact this
  · have k3 : 0 < s * (h m - h (m - 1)) := Rat.mul_pos hs (by have := h3 (m - 1) (by omega); grind)
    grind
theorem chain_zero {R : Nat} {h : Nat → Rat} {g c s t : Rat} {to : Nat → Nat} (hc : 0 ≤ c) (hs : 0 < s) (ht : 0 ≤ t) (hsum : c + s + t = 1) (h0 : h 0 = 0) (hto : ∀ n, n ≤ R → to n ≤ R)
  (heq : ∀ n, n ≤ R → g + h n - (c * h (to n) + s * h (n - 1) + t * h n) = 0) : g = 0 ∧ ∀ n, n ≤ R → h n = 0 := by
 obtain ⟨a1, a2⟩ := half_zero hc hs ht hsum h0 hto heq
 obtain ⟨b1, b2⟩ := half_zero (h := fun n => -h n) (g := -g) hc hs ht hsum (by simp [h0]) hto (fun n hn => by have := heq n hn; grind)
 have hg : g = 0 := by grind
 refine ⟨hg, fun n hn => ?_⟩
 have k1 := a2 hg n hn
 have k2 := b2 (by rw [hg]; simp) n hn
 grind
theorem sumN_ind {h : Nat → Rat} {p : Rat} {k N : Nat} (hk : k < N) : sumN (fun j => (if j = k then p else 0) * h j) N = p * h k := by
 rw [sumN_one hk (fun i _ hne => by rw [if_neg hne]; grind), if_pos rfl]
theorem sumN_add {f g : Nat → Rat} : ∀ n, sumN (fun j => f j + g j) n = sumN f n + sumN g n
 | 0 => by simp only [sumN]; grind
 | n + 1 => by rw [sumN, sumN, sumN, sumN_add n]; grind
def chF (c s t : Rat) (to : Nat → Nat) (n j : Nat) : Rat := (if j = to n then c else 0) + (if j = n - 1 then s else 0) + (if j = n then t else 0)
def relA (R : Nat) (c s t : Rat) (to : Nat → Nat) (b : Nat → Rat) : Mx := fun n j => if j = R + 1 then b n else if j = 0 then 1 else -chF c s t to n j + (if j = n then 1 else 0)
theorem rel_sol {R : Nat} {c s t : Rat} {to : Nat → Nat} {b : Nat → Rat} (hc : 0 ≤ c) (hs : 0 < s) (ht : 0 ≤ t) (hsum : c + s + t = 1) (hto : ∀ n, n ≤ R → to n ≤ R) : ∃ w, gS (relA R c s t to b) (R + 1) (R + 1) = some w := by
  refine gS_some fun y hy k hk => ?_
  obtain ⟨h, hh⟩ : ∃ h : Nat → Rat, h = fun j => if j = 0 then 0 else y j := ⟨_, rfl⟩
  have hh0 : h 0 = 0 := by rw [hh]; simp
  have hhp : ∀ j, j ≠ 0 → h j = y j := fun j hj => by rw [hh]; simp [hj]
  have key : ∀ n, n ≤ R → y 0 + h n - (c * h (to n) + s * h (n - 1) + t * h n) = 0 := by
    intro n hn
    have h1 := hy n (by omega)
    have e1 : ∀ m, m ≤ R → sumN (fun j => relA R c s t to b n j * y j) (m + 1) = y 0 + (sumN (fun j => (if j = n then 1 else 0) * h j) (m + 1) - sumN (fun j => chF c s t to n j * h j) (m + 1)) := by
      intro m
      induction m with
      | zero =>
        intro _
        simp only [sumN, relA, hh0]
        rw [if_neg (by omega)]
        simp
        grind
      | succ m ih =>
        intro hm
        have e5 : ∀ f : Nat → Rat, sumN f (m + 1 + 1) = sumN f (m + 1) + f (m + 1) := fun _ => rfl
        rw [e5 (fun j => relA R c s t to b n j * y j), ih (by omega), e5 (fun j => (if j = n then 1 else 0) * h j), e5 (fun j => chF c s t to n j * h j)]
        generalize sumN (fun j => (if j = n then 1 else 0) * h j) (m + 1) = X
        generalize sumN (fun j => chF c s t to n j * h j) (m + 1) = Y
        have : relA R c s t to b n (m + 1) = -chF c s t to n (m + 1) + (if m + 1 = n then 1 else 0) := by
          unfold relA; rw [if_neg (by omega), if_neg (by omega)]
        rw [this, hhp (m + 1) (by omega)]
        grind
    rw [e1 R (Nat.le_refl _), sumN_ind (by omega)] at h1
    have e2 : sumN (fun j => chF c s t to n j * h j) (R + 1) = c * h (to n) + s * h (n - 1) + t * h n := by
      have e3 : ∀ j, chF c s t to n j * h j = (if j = to n then c else 0) * h j + (if j = n - 1 then s else 0) * h j + (if j = n then t else 0) * h j := fun j => by unfold chF; grind
      rw [sumN_congr fun j _ => e3 j, sumN_add, sumN_add, sumN_ind (by have := hto n hn; omega), sumN_ind (by omega), sumN_ind (by omega)]
    rw [e2] at h1
    grind
  obtain ⟨k1, k2⟩ := chain_zero hc hs ht hsum hh0 hto key
  by_cases e : k = 0
  · rw [e]; exact k1
  · rw [← hhp k e]; exact k2 k (by omega)
def actF (acts : List Bool) (n : Nat) : Bool := acts.getD n false
def toF (R : Nat) (act : Nat → Bool) (n : Nat) : Nat := if n < R ∧ act n = true then n + 1 else n
def rgtF (x : MR) (act : Nat → Bool) (n : Nat) : Rat := if n < x.room ∧ act n = true then -(x.cost * ((n : Int) : Rat)) + x.come * x.reward else -(x.cost * ((n : Int) : Rat))
def ch1 (c : Rat) (to : Nat → Nat) (n j : Nat) : Rat := if j = to n then c else 0
def ch2 (c s : Rat) (to : Nat → Nat) (n j : Nat) : Rat := ch1 c to n j + if j = n - 1 then s else 0
theorem chF_eq {c s t : Rat} {to : Nat → Nat} {n j : Nat} : chF c s t to n j = ch2 c s to n j + if j = n then t else 0 := rfl
def relM (x : MR) (act : Nat → Bool) : Mx := relA x.room x.come x.serve (stayR x) (toF x.room act) (rgtF x act)
def relF (x : MR) (act : Nat → Bool) (i : Nat) : Rat := if i = 0 then 0 else match gS (relM x act) (x.room + 1) (x.room + 1) with | some w => w i (x.room + 1) / w i i | none => 0
def relL (x : MR) (act : Nat → Bool) : List Rat := mapF (x.room + 1) (relF x act)
theorem relL_len {x : MR} {act : Nat → Bool} : (relL x act).length = x.room + 1 := mapF_len
theorem toF_le {R : Nat} {act : Nat → Bool} {n : Nat} (h : n ≤ R) : toF R act n ≤ R := by unfold toF; split <;> omega
section
variable {c s t : Rat} {to : Nat → Nat} {n j : Nat}
theorem ch1_fits (hc : fits 700 c) : fits 700 (ch1 c to n j) := by
  unfold ch1; split
  · exact hc
  · exact zero_fits _ (by decide)
theorem ch2_fits (hc : fits 700 c) (hs : fits 700 s) : fits 1401 (ch2 c s to n j) := by
  unfold ch2
  refine fits_add (m := 700) (n := 700) (ch1_fits hc) ?_
  split
  · exact hs
  · exact zero_fits _ (by decide)
theorem chF_fits (hc : fits 700 c) (hs : fits 700 s) (ht : fits 1466 t) : fits 2868 (chF c s t to n j) := by
  rw [chF_eq]
  refine fits_add (m := 1401) (n := 1466) (ch2_fits hc hs) ?_
  split
  · exact ht
  · exact zero_fits _ (by decide)
end
theorem one_fits (m : Nat) (hm : 0 < m) : fits m 1 := fits_int (n := 1) (by simpa using Nat.one_lt_two_pow (by omega)) hm
theorem stay_fits {x : MR} (f1 : fits 700 x.come) (f2 : fits 700 x.serve) : fits 1466 (stayR x) :=
 fits_sub (m := 765) (n := 700) (fits_sub (m := 64) (n := 700) (one_fits _ (by decide)) f1) f2
theorem nat_fits {n : Nat} (h : n ≤ 8) : fits 64 ((n : Int) : Rat) := by
 have : (2 : Nat) ^ 4 ≤ 2 ^ 64 := Nat.pow_le_pow_right (by decide) (by decide)
 exact fits_int (by omega) (by decide)
section
variable {x : MR} {act : Nat → Bool}
theorem rgt_fits {n : Nat} (f1 : fits 700 x.come) (f3 : fits 700 x.reward) (f4 : fits 700 x.cost) (hn : n ≤ 8) : fits 2165 (rgtF x act n) := by
  have h1 : fits 764 (-(x.cost * ((n : Int) : Rat))) := fits_neg (fits_mul (m := 700) (n := 64) f4 (nat_fits hn) (by decide))
  unfold rgtF; split
  · exact fits_add (m := 764) (n := 1400) h1 (fits_mul (m := 700) (n := 700) f1 f3 (by decide))
  · exact fits_mono h1 (by decide)
theorem relM_fits (f1 : fits 700 x.come) (f2 : fits 700 x.serve) (f3 : fits 700 x.reward) (f4 : fits 700 x.cost) (h8 : x.room ≤ 8) : FitM 3000 (relM x act) (x.room + 1) (x.room + 2) := by
  intro i j hi hj
  unfold relM relA
  split
  · exact fits_mono (rgt_fits f1 f3 f4 (by omega)) (by decide)
  · split
    · exact one_fits _ (by decide)
    · refine fits_mono (m := 2868 + 64 + 1) (fits_add (fits_neg (chF_fits f1 f2 (stay_fits f1 f2))) ?_) (by decide)
      split
      · exact one_fits _ (by decide)
      · exact zero_fits _ (by decide)
def relU : Nat := 17000000
def relB : Nat := 14000000000
theorem gB_rel {k : Nat} (hk : k ≤ 9) : gB 33001 k ≤ relU := by
 have h1 := gB_mono (m := 33001) hk
 have h2 : gB 33001 9 = 16897023 := by decide +kernel
 have h3 : relU = 17000000 := rfl
 omega
theorem rel_row (f1 : fits 700 x.come) (f2 : fits 700 x.serve) (f3 : fits 700 x.reward) (f4 : fits 700 x.cost) (h8 : x.room ≤ 8) : RowM 33001 (relM x act) (x.room + 1) (x.room + 2) :=
 ((relM_fits f1 f2 f3 f4 h8).row).mono (by omega)
theorem gB_pos {m k : Nat} (hm : 0 < m) : 0 < gB m k := by have := gB_mono (m := m) (Nat.zero_le k); have h0 : gB m 0 = m := rfl; omega
theorem rel_gI (f1 : fits 700 x.come) (f2 : fits 700 x.serve) (f3 : fits 700 x.reward) (f4 : fits 700 x.cost) (h8 : x.room ≤ 8) : ∀ k, k ≤ x.room + 1 → ∀ u, gI (relM x act) (x.room + 1) k = some u → FitM relU u (x.room + 1) (x.room + 2) :=
 fun k hk u hu => ((gI_fit (rel_row f1 f2 f3 f4 h8) (by omega) k hk u hu).fit (gB_pos (by decide))).mono (gB_rel (by omega))
theorem rel_gS (f1 : fits 700 x.come) (f2 : fits 700 x.serve) (f3 : fits 700 x.reward) (f4 : fits 700 x.cost) (h8 : x.room ≤ 8) : ∀ k, k ≤ x.room + 1 → ∀ u, gS (relM x act) (x.room + 1) k = some u → FitM relU u (x.room + 1) (x.room + 2) :=
 fun k hk u hu => ((gS_fit (rel_row f1 f2 f3 f4 h8) (by omega) k hk u hu).fit (gB_pos (by decide))).mono (gB_rel (by omega))
theorem gI_dia' {a : Mx} {n k : Nat} {u : Mx} (hk : k ≤ n) (h : gI a n k = some u) : ∀ i, i < k → u i i ≠ 0 := by
 have := both_all a (n := n) k hk
 rw [h] at this
 cases hw : gS a n k with
 | none => rw [hw] at this; exact this.elim
 | some w => rw [hw] at this; exact this.udia
theorem bY_rel {k : Nat} (hk : k ≤ 8) : 2 * relU + bY relU k ≤ relB := by
 have h1 := bY_mono (U := relU) hk
 have h2 : 2 * relU + bY relU 8 ≤ relB := by decide +kernel
 omega
theorem rel_bk (h8 : x.room ≤ 8) {u : Mx} (hu : gI (relM x act) (x.room + 1) (x.room + 1) = some u) (hf : FitM relU u (x.room + 1) (x.room + 2)) :
    (∀ t, t ≤ x.room + 1 → ∀ i, i < x.room + 1 → fits relB (bk u (x.room + 1) t i)) ∧ ∀ t, t < x.room + 1 → ∀ m, m ≤ t → fits relB (sbX u (bk u (x.room + 1) t) (x.room + 1 - 1 - t) m) := by
  have hd := gI_dia' (Nat.le_refl _) hu
  have hU : relU ≤ relB := by decide
  refine ⟨fun t ht i hi => ?_, fun t ht m hm => ?_⟩
  · obtain ⟨h1, h2⟩ := bk_fit hf hd t ht
    rcases Nat.lt_or_ge i (x.room + 1 - t) with c | c
    · exact fits_mono (h2 i c) hU
    · exact fits_mono (h1 i hi c) (bY_rel (by omega))
  · obtain ⟨h1, h2⟩ := bk_fit hf hd t (by omega)
    refine fits_mono (sbX_fit hf ht (h2 _ (by omega)) (fun j hj hj2 => h1 j hj2 hj) m hm) ?_
    have := bY_rel (k := t) (by omega)
    omega
theorem rel_go (h1 : 0 < x.come) (h2 : 0 < x.serve) (h3 : x.come + x.serve ≤ 1) : ∃ u w, gI (relM x act) (x.room + 1) (x.room + 1) = some u ∧ gS (relM x act) (x.room + 1) (x.room + 1) = some w ∧
  ∀ i, i < x.room + 1 → bk u (x.room + 1) (x.room + 1) i = w i (x.room + 1) / w i i := by
 obtain ⟨w, hw⟩ := rel_sol (R := x.room) (c := x.come) (s := x.serve) (t := stayR x) (to := toF x.room act) (b := rgtF x act) (by grind) h2 (by unfold stayR; grind) (by unfold stayR; grind) (fun n hn => toF_le hn)
 obtain ⟨u, hu⟩ := gI_some hw
 have := sol_same (relM x act) (x.room + 1)
 unfold relM at this ⊢
 rw [hu, hw] at this
 exact ⟨u, w, hu, hw, this⟩
end
structure RowsG (t : Nat) (L : List Rat → List AV) (h : Nat → Blk) (lo hi o : Nat) (rid : Nat → Nat) (n c : Nat) (u : Mx) (e1 : Bool) : Prop where
 row : ∀ i, i < n → h (rid i) = ⟨t, L (mapF c (u i)), e1, true, true⟩
 at_ : ∀ i, i < n → lo ≤ rid i ∧ rid i < hi ∧ rid i ≠ o
 inj : ∀ i j, i < n → j < n → rid i = rid j → i = j
def ridS (rid : Nat → Nat) (n k : Nat) : Nat → Nat := fun i => if i = n then k else rid i
theorem refsL_grow {rid : Nat → Nat} {n c k : Nat} : refsL rid n c ++ [.ref k c 0 c] = refsL (ridS rid n k) (n + 1) c := by
 rw [refsL_succ]
 have h1 : refsL rid n c = refsL (ridS rid n k) n c := refsL_congr fun i hi => by unfold ridS; rw [if_neg (by omega)]
 rw [h1]; unfold ridS; simp
section
variable {T t : Nat} {L : List Rat → List AV} {h h' : Nat → Blk} {lo hi hi' o : Nat} {rid : Nat → Nat} {n c k : Nat} {u : Mx} {e1 e2 : Bool}
theorem RowsG.zero : RowsG t L h lo hi o rid 0 c u e1 := ⟨fun _ h => by omega, fun _ h => by omega, fun _ _ h => by omega⟩
theorem RowsG.keep (H : RowsG t L h lo hi o rid n c u e1) (h1 : ∀ i, lo ≤ i → i < hi → i ≠ o → h' i = h i) (h2 : hi ≤ hi') : RowsG t L h' lo hi' o rid n c u e1 :=
 ⟨fun i hi => by obtain ⟨a, b, d⟩ := H.at_ i hi; rw [h1 _ a b d]; exact H.row i hi, fun i hi => by obtain ⟨a, b, d⟩ := H.at_ i hi; exact ⟨a, by omega, d⟩, H.inj⟩
theorem RowsG.add (H : RowsG t L h lo hi o rid n c u e1) (hk : h' k = ⟨t, L (mapF c (u n)), e1, true, true⟩) (h1 : ∀ i, lo ≤ i → i < hi → i ≠ o → h' i = h i) (k1 : hi ≤ k) (k0 : lo ≤ k) (k2 : k < hi') (k3 : k ≠ o) : RowsG t L h' lo hi' o (ridS rid n k) (n + 1) c u e1 := by
  have hs : ∀ i, i < n → ridS rid n k i = rid i := fun i hi => by unfold ridS; rw [if_neg (by omega)]
  have hn : ridS rid n k n = k := by unfold ridS; rw [if_pos rfl]
  have H2 := H.keep (hi' := hi') h1 (by omega)
  refine ⟨fun i hi => ?_, fun i hi => ?_, fun i j hi hj e => ?_⟩
  · rcases Nat.lt_or_ge i n with c | c
    · rw [hs i c]; exact H2.row i c
    · obtain rfl : i = n := by omega
      rw [hn]; exact hk
  · rcases Nat.lt_or_ge i n with c | c
    · rw [hs i c]; exact H2.at_ i c
    · obtain rfl : i = n := by omega
      rw [hn]; exact ⟨k0, k2, k3⟩
  · rcases Nat.lt_or_ge i n with c | c <;> rcases Nat.lt_or_ge j n with d | d
    · rw [hs i c, hs j d] at e; exact H.inj i j c d e
    · obtain rfl : j = n := by omega
      rw [hs i c, hn] at e; have := (H.at_ i c).2.1; omega
    · obtain rfl : i = n := by omega
      rw [hs j d, hn] at e; have := (H.at_ j d).2.1; omega
    · omega
theorem RowsG.mat (H : RowsG t L h lo hi o rid n c u e1) (ho : h o = ⟨T, refsL rid n c, e2, true, true⟩) : MatH T t L h o rid n c u e1 e2 := ⟨ho, H.row, H.inj, fun i hi => (H.at_ i hi).2.2⟩
end
theorem o_sMat : okT Tryz.prog 93 = true := by kernel_rfl
theorem g_sMat : aggT Tryz.prog 93 = true := by kernel_rfl
theorem s_sMat : szT Tryz.prog 93 = 1 := by kernel_rfl
theorem z_sMat : zeroA Tryz.prog 93 = some (.agg [.nil]) := by kernel_rfl
theorem fs_sMat : infosT Tryz.prog 93 = true := by kernel_rfl
theorem f_sMat0 : fieldOff Tryz.prog 93 0 = some (0, 91) := by kernel_rfl
theorem el_sMat {a0 : AV} : AV.el Tryz.prog 93 (.agg [a0]) = (a0.one) := by simp [AV.el, s_sMat, AV.cells]
attribute [go_sem] o_sMat g_sMat s_sMat z_sMat fs_sMat f_sMat0 el_sMat
theorem rS_to {k M : Nat} {q : Rat} (h : fits k q) (hk : k ≤ M) : rS k q = rS M q := rS_re h (fits_mono h hk)
theorem row_put {k M N j : Nat} {f : Nat → Rat} {q : Rat} (h : rS k q = rS M q) : (ratM M (mapF N f)).set j (rS k q) = ratM M (mapF N fun i => if i = j then q else f i) := by rw [h, ratM_put, mapF_set]
theorem zeros_row {M N : Nat} (hM : 64 ≤ M) : ratM 64 (List.replicate N 0) = ratM M (mapF N fun _ => 0) := by
  have : List.replicate N (0 : Rat) = mapF N fun _ => 0 := by
    apply List.ext_getElem
    · simp [mapF]
    · intro i _ _; simp [mapF]
  rw [this]
  exact List.map_congr_left fun q hq => by
    obtain ⟨i, _, rfl⟩ := List.mem_map.1 hq
    exact rS_re (zero_fits _ (by decide)) (zero_fits _ (by omega))
theorem i_zerosN {x : MR} {fr : Nat → AV} {h : Nat → Blk} {nx id M : Nat} (hM : 64 ≤ M) (hb : h id = ⟨41, [x.sv], true, false, true⟩) (hid : id < nx) (h8 : x.room ≤ 8) :
    InOk Tryz.prog ⟨fr, h, nx⟩ 42 [.ptr id 1 0 0] (.ref nx (x.room + 1) 0 (x.room + 1)) ⟨fr, upd h nx ⟨39, ratM M (mapF (x.room + 1) fun _ => 0), false, true, true⟩, nx + 1⟩ := by
  have key : InOk Tryz.prog ⟨fr, h, nx⟩ 42 [.ptr id 1 0 0] _ _ := inOkN0 (W := ⟨fun _ => false, fun _ => none⟩) (T := 39) (xs := ratM 64 (List.replicate (x.room + 1) 0)) (sp := []) (ex := false) (fr := fr) (h := h) (nx := nx) (args := [.ptr id 1 0 0]) hm' Tryz.func42 rfl (by kernel_rfl) (Nat.le_of_ble_eq_true rfl) (by simp) rfl (go_start ?_)
  · rw [zeros_row hM] at key
    simpa only [ratM_length, mapF_len, List.length_nil, Nat.add_zero, List.append_nil] using key
  generalize hQ : PostN Tryz.prog Tryz.f42 _ _ _ _ = Q
  obtain ⟨r, hr⟩ : ∃ r, x.room = r := ⟨_, rfl⟩
  rw [hr] at h8 hQ
  simp (disch := omega) only [go_sem, Nat.reduceEqDiff, Nat.reduceBEq, ↓reduceIte, reduceCtorEq, hb]
  refine k_loop (fun (n : Nat) st => st.fr 0 = .ptr id 1 0 0 ∧ st.fr 3 = .ref nx n 0 n ∧ st.fr 4 = .int .i64 n ∧ st.h nx = ⟨39, ratM 64 (List.replicate n 0), (n == 0), true, true⟩ ∧ (∀ i, i < nx → st.h i = h i) ∧ nx < st.nx ∧ n ≤ r + 1) (fun n => r + 1 - n) 0
    ⟨(by simp [upd_app] <;> omega), (by simp [upd_app] <;> omega), (by simp [upd_app] <;> omega), by simp [upd_app, ratM], fun i hi => by simp only [upd_app]; rw [if_neg (by omega)], by simp, by omega⟩ ?_
  rintro n ⟨fr1, h1, nx1⟩ ⟨g0, g3, g4, hm0, hold, hnx, hn⟩ J hJ
  simp only at g0 g3 g4 hm0 hold hnx
  have hb1 : h1 id = ⟨41, [x.sv], true, false, true⟩ := by rw [hold id hid]; exact hb
  have hel : (ratM 64 (List.replicate n 0)).length = n := by rw [ratM_length, List.length_replicate]
  by_cases hin : n ≤ r
  · have hz1 : (n + 1 == 0) = false := by simp
    have hsn : ratM 64 (List.replicate n 0) ++ [rS 64 0] = ratM 64 (List.replicate (n + 1) 0) := by rw [ratM_snoc, ← List.replicate_succ']
    simp (disch := omega) only [go_sem, Nat.reduceEqDiff, Nat.reduceBEq, ↓reduceIte, reduceCtorEq, g0, g3, g4, hb1, hr, hm0, hel, reach]
    (repeat (with_reducible refine Or.inr ?_))
    exact hJ (n + 1) _ ⟨(by simp [upd_app, g0] <;> omega), (by simp [upd_app] <;> omega), (by simp [upd_app] <;> omega), by simp only [upd_app, ↓reduceIte, hsn, hz1], fun i hi => by simp only [upd_app]; rw [if_neg (by omega), hold i hi], by simp only; omega, by omega⟩ (by omega)
  · obtain rfl : n = r + 1 := by omega
    simp (disch := omega) only [go_sem, Nat.reduceEqDiff, Nat.reduceBEq, ↓reduceIte, reduceCtorEq, g0, g3, g4, hb1, hr]
    rw [← hQ]
    exact postN_own (id := nx) (n := r + 1) (len := r + 1) (.inl rfl) rfl (by simp [upd_app] <;> omega) (by simp [hm0]) (by simp [hm0, hel]) (by simp [hm0]) (by simp [hm0]) (Nat.le_refl _) (Nat.le_refl _) (by simp only [hm0]; exact List.take_of_length_le (by omega)) (by simp [hm0]) (by simp [hm0]) (by simp) rfl (fun i hi _ => by simp only; exact hold i hi)
def polM (x : MR) (acts : List Bool) : Mx := chF x.come x.serve (stayR x) (toF x.room (actF acts))
def polB : Nat := 3000
theorem act_at {acts : List Bool} {n : Nat} (h : n < acts.length) : acts[n]? = some (actF acts n) := by
 unfold actF; rw [List.getD_eq_getElem?_getD, List.getElem?_eq_getElem h]; rfl
theorem pol_fits {x : MR} {acts : List Bool} (f1 : fits 700 x.come) (f2 : fits 700 x.serve) (n j : Nat) : fits polB (polM x acts n j) := fits_mono (chF_fits f1 f2 (stay_fits f1 f2)) (by decide)
theorem snapA_agg1 {st : St} {i n off len : Nat} {y : AV} {ids : List Nat} (h : snapA st 7 (.ref i n off len) = some (y, ids)) : snapA st 8 (.agg [.ref i n off len]) = some (.agg [y], ids) := by
 rw [snapA]; simp [AV.pure, AV.pureL, snapL, h]
section
variable {x : MR} {acts : List Bool} {n j : Nat}
theorem pol_a1 (h : 0 < x.room) (ha : actF acts 0 = true) : (if j = 1 then x.come else if j = 0 then stayR x + x.serve else 0) = polM x acts 0 j := by
 unfold polM chF toF; simp only [h, ha, and_self, if_true, Nat.zero_add, Nat.zero_sub]; grind
theorem pol_a2 (ha : actF acts 0 = false) : (if j = 0 then stayR x + x.serve + x.come else 0) = polM x acts 0 j := by
 unfold polM chF toF; simp [ha]; grind
theorem pol_b1 (h0 : 0 < n) (h : n < x.room) (ha : actF acts n = true) : (if j = n + 1 then x.come else if j = n - 1 then x.serve else if j = n then stayR x else 0) = polM x acts n j := by
 unfold polM chF toF; simp only [h, ha, and_self, if_true]; grind
theorem pol_b2 (h0 : 0 < n) (h : ¬(n < x.room ∧ actF acts n = true)) : (if j = n then stayR x + x.come else if j = n - 1 then x.serve else 0) = polM x acts n j := by
 unfold polM chF toF; simp only [h, if_false]; grind
end
set_option maxHeartbeats 8000000 in
theorem i_l09Chain {fr : Nat → AV} {h : Nat → Blk} {nx id : Nat} {x : MR} {acts : List Bool} (hb : h id = ⟨41, [x.sv], true, false, true⟩) (hid : id < nx) (h1 : 1 ≤ x.room) (h8 : x.room ≤ 8) (ha : acts.length = x.room)
    (f1 : fits 700 x.come) (f2 : fits 700 x.serve) :
    InOk Tryz.prog ⟨fr, h, nx⟩ 53 [.ptr id 1 0 0, .sl 4 (boolA acts) [] false] (.agg [.sl 48 (rowsS 39 (x.room + 1) fun n => ratM polB (mapF (x.room + 1) (polM x acts n))) [] false]) ⟨fr, h, nx⟩ := by
  refine inOkS0 (W := ⟨fun g => g == 42, fun _ => none⟩) hm' Tryz.func53 rfl (by kernel_rfl) (Nat.le_of_ble_eq_true rfl) (go_start ?_)
  generalize hQ : PostS Tryz.prog Tryz.f53 _ _ _ _ = Q
  have hpf := pol_fits (acts := acts) f1 f2
  have a1 := @pol_a1 x acts
  have a2 := @pol_a2 x acts
  have b1 := @pol_b1 x acts
  have b2 := @pol_b2 x acts
  have hsv : stayR x = 1 - x.come - x.serve := rfl
  have hst := stay_fits f1 f2
  rw [hsv] at hst
  simp only [hsv] at a1 a2 b1 b2
  have hB : polB = 3000 := rfl
  have e1 := rS_to (M := polB) hst (by omega)
  have e2 := rS_to (M := polB) f1 (by omega)
  have e3 := rS_to (M := polB) f2 (by omega)
  obtain ⟨r, hr⟩ : ∃ r, x.room = r := ⟨_, rfl⟩
  have hin' := fun (fr : Nat → AV) h nx hb hid => i_zerosN (x := x) (fr := fr) (h := h) (nx := nx) (id := id) (M := polB) (by omega) hb hid h8
  rw [hr] at h1 h8 hQ ha a1
  simp only [hr] at b1 b2 hin'
  generalize hpm : polM x acts = pm at *
  simp (disch := omega) only [go_sem, Nat.reduceEqDiff, Nat.reduceBEq, ↓reduceIte, reduceCtorEq, hb]
  refine k_loop (fun (⟨n, o, rid⟩ : Nat × Nat × (Nat → Nat)) st => st.fr 0 = .ptr id 1 0 0 ∧ st.fr 1 = .sl 4 (boolA acts) [] false ∧ st.fr 4 = .ptr nx 1 0 0 ∧ st.fr 5 = .ptr (nx + 1) 1 0 0 ∧ st.fr 6 = .int .i64 n ∧ st.h nx = ⟨93, [.agg [.nil]], true, false, true⟩ ∧ st.h (nx + 1) = ⟨93, [.agg [if n = 0 then .nil else .ref o n 0 n]], true, false, true⟩ ∧
      (0 < n → st.h o = ⟨48, refsL rid n (r + 1), false, true, true⟩ ∧ nx + 2 ≤ o ∧ o < st.nx) ∧ RowsG 39 (ratM polB) st.h (nx + 2) st.nx o rid n (r + 1) pm false ∧ (∀ i, i < nx → st.h i = h i) ∧ nx + 2 ≤ st.nx ∧ n ≤ r + 1) (fun (⟨n, _, _⟩ : Nat × Nat × (Nat → Nat)) => r + 1 - n) (0, 0, fun i => i)
    ⟨(by simp [upd_app] <;> omega), (by simp [upd_app] <;> omega), (by simp [upd_app] <;> omega), (by simp [upd_app] <;> omega), (by simp [upd_app] <;> omega), by simp [upd_app], by simp [upd_app], by omega, RowsG.zero, fun i hi => by simp (disch := omega) only [upd_app, if_neg], by simp, by omega⟩ ?_
  rintro ⟨n, o, rid⟩ ⟨fr1, h2, nx1⟩ ⟨g0, g1, g4, g5, g6, hm0, hm1, hm2, HR, hold, hnx, hn⟩ J hJ
  simp only at g0 g1 g4 g5 g6 hm0 hm1 hm2 HR hold hnx
  have hb1 : h2 id = ⟨41, [x.sv], true, false, true⟩ := by rw [hold id hid]; exact hb
  have hbl : (boolA acts).length = r := by rw [boolA_len, ha]
  by_cases hin : n < r + 1
  · have n1 : (id = nx1) = False := by simp; omega
    have n2 : (nx1 = nx + 1) = False := by simp; omega
    have n3 : (nx + 1 = nx1) = False := by simp; omega
    have hrl : ∀ f : Nat → Rat, (ratM polB (mapF (r + 1) f)).length = r + 1 := fun f => by rw [ratM_length, mapF_len]
    have hp : ∀ (f : Nat → Rat) (k j : Nat) (q : Rat), rS k q = rS polB q → (ratM polB (mapF (r + 1) f)).set j (rS k q) = ratM polB (mapF (r + 1) fun i => if i = j then q else f i) := fun f k j q h => row_put h
    have hpp : ∀ (f : Nat → Rat) (j : Nat) (q : Rat), (ratM polB (mapF (r + 1) f)).set j (rS polB q) = ratM polB (mapF (r + 1) fun i => if i = j then q else f i) := fun f j q => row_put rfl
    have at0 : ∀ f : Nat → Rat, (mapF (r + 1) f)[0]? = some (f 0) := fun f => mapF_at (by omega)
    have at1 : ∀ f : Nat → Rat, (mapF (r + 1) f)[1]? = some (f 1) := fun f => mapF_at (by omega)
    have atn : ∀ f : Nat → Rat, (mapF (r + 1) f)[n]? = some (f n) := fun f => mapF_at (by omega)
    have r1 : rS (polB + polB + 1) (1 - x.come - x.serve + x.serve) = rS polB (1 - x.come - x.serve + x.serve) := rS_le (fits_mono (fits_add hst f2) (by omega)) (by omega)
    have r2 : rS (polB + polB + 1) (1 - x.come - x.serve + x.serve + x.come) = rS polB (1 - x.come - x.serve + x.serve + x.come) := rS_le (fits_mono (fits_add (fits_add hst f2) f1) (by omega)) (by omega)
    have r3 : rS (polB + polB + 1) (1 - x.come - x.serve + x.come) = rS polB (1 - x.come - x.serve + x.come) := rS_le (fits_mono (fits_add hst f1) (by omega)) (by omega)
    have hupd : ∀ z w : Blk, upd (upd h2 nx1 z) nx1 w = upd h2 nx1 w := by intro z w; funext j; simp only [upd_app]; split <;> rfl
    have n4 : (nx = nx1) = False := by simp; omega
    have n5 : (nx1 = nx) = False := by simp; omega
    have n6 : (id = nx1 + 1) = False := by simp; omega
    by_cases n0 : n = 0
    · subst n0
      have hak := act_at (acts := acts) (n := 0) (by omega)
      simp only [if_true] at hm1
      have keyJ := fun rid' => hJ (1, nx1 + 1, rid')
      clear hJ
      simp (disch := omega) only [go_sem, Nat.reduceEqDiff, Nat.reduceBEq, ↓reduceIte, reduceCtorEq, ↓k_appE, g0, g1, g4, g5, g6, hb1, hr, hm1]
      refine callW_I (hin' _ _ _ hb1 (by omega)) (by kernel_rfl) (.inl rfl) ?_
      cases hac : actF acts 0 with
      | true =>
        rw [hac] at hak
        have hrow : (mapF (r + 1) fun i => if i = 1 then x.come else if i = 0 then 1 - x.come - x.serve + x.serve else 0) = mapF (r + 1) (pm 0) := mapF_congr fun j _ => a1 (by omega) hac
        simp (disch := omega) only [go_sem, ↓k_condStop, Nat.reduceEqDiff, Nat.reduceBEq, ↓reduceIte, reduceCtorEq, ↓k_appE, g0, g1, g4, g5, g6, hb1, hr, hm1, n1, n2, n3, n4, n5, n6, hrl, hpp, e1, e2, e3, r1, r2, r3, hupd, hbl, boolA_at, mapF_len, reach, at0, at1, hak]; try unfold goS
        rw [k_cond]
        simp (disch := omega) only [go_sem, ↓k_condStop, Nat.reduceEqDiff, Nat.reduceBEq, ↓reduceIte, reduceCtorEq, ↓k_appE, g0, g1, g4, g5, g6, hb1, hr, hm1, n1, n2, n3, n4, n5, n6, hrl, hpp, e1, e2, e3, r1, r2, r3, hupd, hbl, boolA_at, mapF_len, reach, at0, at1, hak]; try unfold goS
        (repeat (with_reducible refine Or.inr ?_))
        rw [k_cond]
        simp (disch := omega) only [go_sem, ↓k_condStop, Nat.reduceEqDiff, Nat.reduceBEq, ↓reduceIte, reduceCtorEq, ↓k_appE, g0, g1, g4, g5, g6, hb1, hr, hm1, n1, n2, n3, n4, n5, n6, hrl, hpp, e1, e2, e3, r1, r2, r3, hupd, hbl, boolA_at, mapF_len, reach, at0, at1, hak]; try unfold goS
        (repeat (with_reducible refine Or.inr ?_))
        exact keyJ (ridS rid 0 nx1) _ ⟨(by simp [upd_app, g0] <;> omega), (by simp [upd_app, g1] <;> omega), (by simp [upd_app, g4] <;> omega), (by simp [upd_app, g5] <;> omega), (by simp [upd_app] <;> omega), by simp (disch := omega) only [upd_app, ↓reduceIte, if_neg, hm0], by simp (disch := omega) only [upd_app, ↓reduceIte, if_neg, if_pos], fun _ => ⟨by simp (disch := omega) only [upd_app, ↓reduceIte, if_neg, if_pos]; rw [← refsL_grow]; rfl, by omega, by simp only; omega⟩,
          (RowsG.zero (h := h2) (hi := nx1)).add (by simp (disch := omega) only [upd_app, ↓reduceIte, if_neg, if_pos]; rw [hrow]) (fun i h1 h2 h3 => by simp (disch := omega) only [upd_app, if_neg]) (by omega) (by omega) (by simp only; omega) (by omega), fun i hi => by simp (disch := omega) only [upd_app, if_neg, hold i hi], by simp only; omega, by omega⟩ (by simp only; omega)
      | false =>
        rw [hac] at hak
        have hrow : (mapF (r + 1) fun i => if i = 0 then 1 - x.come - x.serve + x.serve + x.come else 0) = mapF (r + 1) (pm 0) := mapF_congr fun j _ => a2 hac
        simp (disch := omega) only [go_sem, ↓k_condStop, Nat.reduceEqDiff, Nat.reduceBEq, ↓reduceIte, reduceCtorEq, ↓k_appE, g0, g1, g4, g5, g6, hb1, hr, hm1, n1, n2, n3, n4, n5, n6, hrl, hpp, e1, e2, e3, r1, r2, r3, hupd, hbl, boolA_at, mapF_len, reach, at0, at1, hak]; try unfold goS
        rw [k_cond]
        simp (disch := omega) only [go_sem, ↓k_condStop, Nat.reduceEqDiff, Nat.reduceBEq, ↓reduceIte, reduceCtorEq, ↓k_appE, g0, g1, g4, g5, g6, hb1, hr, hm1, n1, n2, n3, n4, n5, n6, hrl, hpp, e1, e2, e3, r1, r2, r3, hupd, hbl, boolA_at, mapF_len, reach, at0, at1, hak]; try unfold goS
        (repeat (with_reducible refine Or.inr ?_))
        rw [k_cond]
        simp (disch := omega) only [go_sem, ↓k_condStop, Nat.reduceEqDiff, Nat.reduceBEq, ↓reduceIte, reduceCtorEq, ↓k_appE, g0, g1, g4, g5, g6, hb1, hr, hm1, n1, n2, n3, n4, n5, n6, hrl, hpp, e1, e2, e3, r1, r2, r3, hupd, hbl, boolA_at, mapF_len, reach, at0, at1, hak]; try unfold goS
        (repeat (with_reducible refine Or.inr ?_))
        exact keyJ (ridS rid 0 nx1) _ ⟨(by simp [upd_app, g0] <;> omega), (by simp [upd_app, g1] <;> omega), (by simp [upd_app, g4] <;> omega), (by simp [upd_app, g5] <;> omega), (by simp [upd_app] <;> omega), by simp (disch := omega) only [upd_app, ↓reduceIte, if_neg, hm0], by simp (disch := omega) only [upd_app, ↓reduceIte, if_neg, if_pos], fun _ => ⟨by simp (disch := omega) only [upd_app, ↓reduceIte, if_neg, if_pos]; rw [← refsL_grow]; rfl, by omega, by simp only; omega⟩,
          (RowsG.zero (h := h2) (hi := nx1)).add (by simp (disch := omega) only [upd_app, ↓reduceIte, if_neg, if_pos]; rw [hrow]) (fun i h1 h2 h3 => by simp (disch := omega) only [upd_app, if_neg]) (by omega) (by omega) (by simp only; omega) (by omega), fun i hi => by simp (disch := omega) only [upd_app, if_neg, hold i hi], by simp only; omega, by omega⟩ (by simp only; omega)
    · have keyJ := fun rid' => hJ (n + 1, o, rid')
      clear hJ
      simp only [n0, if_false] at hm1
      obtain ⟨hmo, ho1, ho2⟩ := hm2 (by omega)
      have m1 : (o = nx1) = False := by simp; omega
      have m2 : (nx1 = o) = False := by simp; omega
      have m3 : (o = nx + 1) = False := by simp; omega
      have m4 : (nx + 1 = o) = False := by simp; omega
      have m5 : (o = nx) = False := by simp; omega
      have m6 : (nx = o) = False := by simp; omega
      have hol : ∀ f : Nat → Nat, (refsL f n (r + 1)).length = n := fun _ => refsL_len
      have hq1 : ((n : Int) - 1).toNat = n - 1 := by omega
      have hq2 : ((n : Int) + 1).toNat = n + 1 := by omega
      have atm : ∀ f : Nat → Rat, (mapF (r + 1) f)[n - 1]? = some (f (n - 1)) := fun f => mapF_at (by omega)
      simp (disch := omega) only [go_sem, Nat.reduceEqDiff, Nat.reduceBEq, ↓reduceIte, reduceCtorEq, ↓k_appE, g0, g1, g4, g5, g6, hb1, hr, hm1]
      refine callW_I (hin' _ _ _ hb1 (by omega)) (by kernel_rfl) (.inl rfl) ?_
      simp (disch := omega) only [go_sem, ↓k_condStop, Nat.reduceEqDiff, Nat.reduceBEq, ↓reduceIte, reduceCtorEq, ↓k_appE, g0, g1, g4, g5, g6, hb1, hr, hm1, hmo, n1, n2, n3, n4, n5, n6, m1, m2, m3, m4, m5, m6, hrl, hpp, e1, e2, e3, r1, r2, r3, hupd, hbl, boolA_at, mapF_len, hol, reach, atn, atm, hq1, hq2]; try unfold goS
      rw [k_cond]
      by_cases c : n < r
      · have hak := act_at (acts := acts) (n := n) (by omega)
        have atp : ∀ f : Nat → Rat, (mapF (r + 1) f)[n + 1]? = some (f (n + 1)) := fun f => mapF_at (by omega)
        cases hac : actF acts n with
        | true =>
          rw [hac] at hak
          have hrow : (mapF (r + 1) fun i => if i = n + 1 then x.come else if i = n - 1 then x.serve else if i = n then 1 - x.come - x.serve else 0) = mapF (r + 1) (pm n) := mapF_congr fun j _ => b1 (by omega) c hac
          simp (disch := omega) only [go_sem, ↓k_condStop, Nat.reduceEqDiff, Nat.reduceBEq, ↓reduceIte, reduceCtorEq, ↓k_appE, g0, g1, g4, g5, g6, hb1, hr, hm1, hmo, n1, n2, n3, n4, n5, n6, m1, m2, m3, m4, m5, m6, hrl, hpp, e1, e2, e3, r1, r2, r3, hupd, hbl, boolA_at, mapF_len, hol, reach, hak, atp, atn, atm, hq1, hq2]; try unfold goS
          rw [k_cond]
          simp (disch := omega) only [go_sem, ↓k_condStop, Nat.reduceEqDiff, Nat.reduceBEq, ↓reduceIte, reduceCtorEq, ↓k_appE, g0, g1, g4, g5, g6, hb1, hr, hm1, hmo, n1, n2, n3, n4, n5, n6, m1, m2, m3, m4, m5, m6, hrl, hpp, e1, e2, e3, r1, r2, r3, hupd, hbl, boolA_at, mapF_len, hol, reach, hak, atp, atn, atm, hq1, hq2]; try unfold goS
          (repeat (with_reducible refine Or.inr ?_))
          exact keyJ (ridS rid n nx1) _ ⟨(by simp [upd_app, g0] <;> omega), (by simp [upd_app, g1] <;> omega), (by simp [upd_app, g4] <;> omega), (by simp [upd_app, g5] <;> omega), (by simp [upd_app] <;> omega), by simp (disch := omega) only [upd_app, ↓reduceIte, if_neg, hm0], by simp (disch := omega) only [upd_app, ↓reduceIte, if_neg, if_pos], fun _ => ⟨by simp (disch := omega) only [upd_app, ↓reduceIte, if_neg, if_pos]; rw [← refsL_grow], by omega, by simp only; omega⟩,
          HR.add (by simp (disch := omega) only [upd_app, ↓reduceIte, if_neg, if_pos]; rw [hrow]) (fun i h1 h2 h3 => by simp (disch := omega) only [upd_app, if_neg]) (by omega) (by omega) (by simp only; omega) (by omega), fun i hi => by simp (disch := omega) only [upd_app, if_neg, hold i hi], by simp only; omega, by omega⟩ (by simp only; omega)
        | false =>
          rw [hac] at hak
          have hrow : (mapF (r + 1) fun i => if i = n then 1 - x.come - x.serve + x.come else if i = n - 1 then x.serve else 0) = mapF (r + 1) (pm n) := mapF_congr fun j _ => b2 (by omega) (by simp [hac])
          simp (disch := omega) only [go_sem, ↓k_condStop, Nat.reduceEqDiff, Nat.reduceBEq, ↓reduceIte, reduceCtorEq, ↓k_appE, g0, g1, g4, g5, g6, hb1, hr, hm1, hmo, n1, n2, n3, n4, n5, n6, m1, m2, m3, m4, m5, m6, hrl, hpp, e1, e2, e3, r1, r2, r3, hupd, hbl, boolA_at, mapF_len, hol, reach, hak, atp, atn, atm, hq1, hq2]; try unfold goS
          rw [k_cond]
          have hnn : (n = n - 1) = False := by simp; omega
          simp (disch := omega) only [go_sem, ↓k_condStop, Nat.reduceEqDiff, Nat.reduceBEq, ↓reduceIte, reduceCtorEq, ↓k_appE, g0, g1, g4, g5, g6, hb1, hr, hm1, hmo, n1, n2, n3, n4, n5, n6, m1, m2, m3, m4, m5, m6, hrl, hpp, e1, e2, e3, r1, r2, r3, hupd, hbl, boolA_at, mapF_len, hol, reach, hak, atp, hnn, atn, atm, hq1, hq2]; try unfold goS
          (repeat (with_reducible refine Or.inr ?_))
          exact keyJ (ridS rid n nx1) _ ⟨(by simp [upd_app, g0] <;> omega), (by simp [upd_app, g1] <;> omega), (by simp [upd_app, g4] <;> omega), (by simp [upd_app, g5] <;> omega), (by simp [upd_app] <;> omega), by simp (disch := omega) only [upd_app, ↓reduceIte, if_neg, hm0], by simp (disch := omega) only [upd_app, ↓reduceIte, if_neg, if_pos], fun _ => ⟨by simp (disch := omega) only [upd_app, ↓reduceIte, if_neg, if_pos]; rw [← refsL_grow], by omega, by simp only; omega⟩,
          HR.add (by simp (disch := omega) only [upd_app, ↓reduceIte, if_neg, if_pos]; rw [hrow]) (fun i h1 h2 h3 => by simp (disch := omega) only [upd_app, if_neg]) (by omega) (by omega) (by simp only; omega) (by omega), fun i hi => by simp (disch := omega) only [upd_app, if_neg, hold i hi], by simp only; omega, by omega⟩ (by simp only; omega)
      · have hrow : (mapF (r + 1) fun i => if i = n then 1 - x.come - x.serve + x.come else if i = n - 1 then x.serve else 0) = mapF (r + 1) (pm n) := mapF_congr fun j _ => b2 (by omega) (fun h => c h.1)
        simp (disch := omega) only [go_sem, ↓k_condStop, Nat.reduceEqDiff, Nat.reduceBEq, ↓reduceIte, reduceCtorEq, ↓k_appE, g0, g1, g4, g5, g6, hb1, hr, hm1, hmo, n1, n2, n3, n4, n5, n6, m1, m2, m3, m4, m5, m6, hrl, hpp, e1, e2, e3, r1, r2, r3, hupd, hbl, boolA_at, mapF_len, hol, reach, atn, atm, hq1, hq2]; try unfold goS
        rw [k_cond]
        have hnn : (n = n - 1) = False := by simp; omega
        simp (disch := omega) only [go_sem, ↓k_condStop, Nat.reduceEqDiff, Nat.reduceBEq, ↓reduceIte, reduceCtorEq, ↓k_appE, g0, g1, g4, g5, g6, hb1, hr, hm1, hmo, n1, n2, n3, n4, n5, n6, m1, m2, m3, m4, m5, m6, hrl, hpp, e1, e2, e3, r1, r2, r3, hupd, hbl, boolA_at, mapF_len, hol, reach, atn, atm, hq1, hq2, hnn]; try unfold goS
        (repeat (with_reducible refine Or.inr ?_))
        exact keyJ (ridS rid n nx1) _ ⟨(by simp [upd_app, g0] <;> omega), (by simp [upd_app, g1] <;> omega), (by simp [upd_app, g4] <;> omega), (by simp [upd_app, g5] <;> omega), (by simp [upd_app] <;> omega), by simp (disch := omega) only [upd_app, ↓reduceIte, if_neg, hm0], by simp (disch := omega) only [upd_app, ↓reduceIte, if_neg, if_pos], fun _ => ⟨by simp (disch := omega) only [upd_app, ↓reduceIte, if_neg, if_pos]; rw [← refsL_grow], by omega, by simp only; omega⟩,
          HR.add (by simp (disch := omega) only [upd_app, ↓reduceIte, if_neg, if_pos]; rw [hrow]) (fun i h1 h2 h3 => by simp (disch := omega) only [upd_app, if_neg]) (by omega) (by omega) (by simp only; omega) (by omega), fun i hi => by simp (disch := omega) only [upd_app, if_neg, hold i hi], by simp only; omega, by omega⟩ (by simp only; omega)
  · obtain rfl : n = r + 1 := by omega
    obtain ⟨hmo, ho1, ho2⟩ := hm2 (by omega)
    rw [if_neg (by omega)] at hm1
    have m3 : (nx + 1 = nx) = False := by simp
    have m4 : (nx = nx + 1) = False := by simp
    simp (disch := omega) only [go_sem, Nat.reduceEqDiff, Nat.reduceBEq, ↓reduceIte, reduceCtorEq, g0, g1, g4, g5, g6, hb1, hr, hm1, hm0, m3, m4]
    rw [← hQ]
    refine ⟨trivial, ⟨.agg [.ref o (r + 1) 0 (r + 1)], o :: (List.range (r + 1)).map rid, ?_, ?_, ?_⟩, fun i hi _ => by simp (disch := omega) only [upd_app, if_neg, hold i hi]⟩
    · show resV Tryz.prog _ [.cell 4 93] = _
      simp [resV, resL, resA, o_sMat, loadA, upd_app, g4, ldA, partA, g_sMat, s_sMat, AV.cells]
    · refine snapA_agg1 (snapA_rows (d := 5) (by simp (disch := omega) only [upd_app, if_neg]; exact hmo) (fun i hi => ⟨false, true, ?_, by rw [ratM_length, mapF_len], by simp⟩))
      obtain ⟨k1, k2, k3⟩ := HR.at_ i hi
      simp (disch := omega) only [upd_app, if_neg]
      exact HR.row i hi
    · intro i hi
      rcases List.mem_cons.1 hi with rfl | hi
      · omega
      · obtain ⟨k, hk, rfl⟩ := List.mem_map.1 hi
        have := (HR.at_ k (List.mem_range.1 hk)).1
        omega
def relG (x : MR) (act : Nat → Bool) : Rat := match gS (relM x act) (x.room + 1) (x.room + 1) with | some w => w 0 (x.room + 1) / w 0 0 | none => 0
section
variable {x : MR} {acts : List Bool} {act : Nat → Bool} {n j : Nat}
theorem relM_zero : relM x act n 0 = 1 := by unfold relM relA; rw [if_neg (by omega), if_pos rfl]
theorem relM_last : relM x act n (x.room + 1) = rgtF x act n := by unfold relM relA; rw [if_pos rfl]
theorem relM_in (h1 : 1 ≤ j) (h2 : j ≤ x.room) : relM x (actF acts) n j = -polM x acts n j + (if j = n then 1 else 0) := by unfold relM relA polM; rw [if_neg (by omega), if_neg (by omega)]
theorem relM_dia (h1 : 1 ≤ n) (h2 : n ≤ x.room) : relM x (actF acts) n n = -polM x acts n n + 1 := by rw [relM_in h1 h2, if_pos rfl]
theorem relM_off (h1 : 1 ≤ j) (h2 : j ≤ x.room) (h : j ≠ n) : relM x (actF acts) n j = -polM x acts n j := by rw [relM_in h1 h2, if_neg h, Rat.add_zero]
end
set_option maxHeartbeats 8000000 in
theorem i_l09RelativeU {fr : Nat → AV} {h : Nat → Blk} {nx id U : Nat} {x : MR} {acts : List Bool} (hU1 : 3000 ≤ U) (hU2 : U ≤ 17000000) (hgS : ∀ k, k ≤ x.room + 1 → ∀ u, gS (relM x (actF acts)) (x.room + 1) k = some u → FitM U u (x.room + 1) (x.room + 2)) (hb : h id = ⟨41, [x.sv], true, false, true⟩) (hid : id < nx) (h1 : 1 ≤ x.room) (h8 : x.room ≤ 8) (ha : acts.length = x.room)
    (f1 : fits 700 x.come) (f2 : fits 700 x.serve) (f3 : fits 700 x.reward) (f4 : fits 700 x.cost) (p1 : 0 < x.come) (p2 : 0 < x.serve) (p3 : x.come + x.serve ≤ 1) :
    InOk Tryz.prog ⟨fr, h, nx⟩ 28 [.ptr id 1 0 0, .sl 4 (boolA acts) [] false] (.tup [lS (U + U) (relL x (actF acts)), rS (U + U) (relG x (actF acts))]) ⟨fr, h, nx⟩ := by
  refine inOkS0 (W := ⟨fun g => g == 58, fun q => if q = 14 then some [(3, 8)] else none⟩) hm' Tryz.func28 rfl (by kernel_rfl) (Nat.le_of_ble_eq_true rfl) (go_start ?_)
  generalize hQ : PostS Tryz.prog Tryz.f28 _ _ _ _ = Q
  have hB : polB = 3000 := rfl
  have hM := relM_fits (act := actF acts) f1 f2 f3 f4 h8
  obtain ⟨_, w, _, hw, _⟩ := rel_go (act := actF acts) p1 p2 p3
  have hre : ∀ n j k, n ≤ x.room → j ≤ x.room + 1 → 3000 ≤ k → rS k (relM x (actF acts) n j) = rS U (relM x (actF acts) n j) := fun n j k hn hj hk => rS_re (fits_mono (hM n j (by omega) (by omega)) hk) (fits_mono (hM n j (by omega) (by omega)) (by omega))
  have r0 := @relM_zero x (actF acts)
  have r1 := @relM_last x (actF acts)
  have r2 := @relM_dia x acts
  have r3 := @relM_off x acts
  have e1 : rS 64 1 = rS U 1 := rS_to (one_fits _ (by decide)) (by omega)
  have hrg : ∀ n, rgtF x (actF acts) n = if n < x.room ∧ actF acts n = true then -(x.cost * ((n : Int) : Rat)) + x.come * x.reward else -(x.cost * ((n : Int) : Rat)) := fun n => rfl
  have hch := i_l09Chain (fr := fr) hb hid h1 h8 ha f1 f2
  have hL : relL x (actF acts) = mapF (x.room + 1) fun i => if i = 0 then 0 else w i (x.room + 1) / w i i := by unfold relL relF; rw [hw]
  have hG : relG x (actF acts) = w 0 (x.room + 1) / w 0 0 := by unfold relG; rw [hw]
  rw [hL, hG] at hQ
  obtain ⟨r, hr⟩ : ∃ r, x.room = r := ⟨_, rfl⟩
  have hin' := fun (fr : Nat → AV) h nx hb hid => i_l09Chain (x := x) (acts := acts) (fr := fr) (h := h) (nx := nx) (id := id) hb hid h1 h8 ha f1 f2
  simp only [hr] at h1 h8 hQ ha hgS hw hre r1 r2 r3 hrg hin'
  clear hL hG hch hM
  generalize polM x acts = pm at *
  generalize relM x (actF acts) = rm at *
  have hfr : ∀ n, n ≤ r → fits 2165 (rgtF x (actF acts) n) := fun n hn => rgt_fits f1 f3 f4 (by omega)
  have h764 : ∀ n : Nat, n ≤ r → fits 764 (-(x.cost * ((n : Int) : Rat))) := fun n hn => fits_neg (fits_mul (m := 700) (n := 64) f4 (nat_fits (by omega)) (by decide))
  generalize rgtF x (actF acts) = rg at *
  obtain ⟨cv, hcv⟩ : ∃ cv : AV, (.sl 48 (rowsS 39 (r + 1) fun n => ratM polB (mapF (r + 1) (pm n))) [] false) = cv := ⟨_, rfl⟩
  simp (disch := omega) only [go_sem, Nat.reduceEqDiff, Nat.reduceBEq, ↓reduceIte, reduceCtorEq, ↓k_appE, hb]
  refine callW_I (hin' _ _ _ (by simp (disch := omega) only [upd_app, if_neg, hb]) (by omega)) (by kernel_rfl) (.inr ⟨rfl, rfl⟩) ?_
  have hcl : (rowsS 39 (r + 1) fun n => ratM polB (mapF (r + 1) (pm n))).length = r + 1 := rowsS_len
  have hca : ∀ i, i < r + 1 → (rowsS 39 (r + 1) fun n => ratM polB (mapF (r + 1) (pm n)))[i]? = some (.sl 39 (ratM polB (mapF (r + 1) (pm i))) [] false) := fun i hi => rowsS_at hi
  have hcp : AV.pureL (rowsS 39 (r + 1) fun n => ratM polB (mapF (r + 1) (pm n))) = true := rowsS_pure fun _ _ => by simp
  generalize (rowsS 39 (r + 1) fun n => ratM polB (mapF (r + 1) (pm n))) = cl at *
  simp (disch := omega) only [go_sem, Nat.reduceEqDiff, Nat.reduceBEq, ↓reduceIte, reduceCtorEq, ↓k_appE, hcl]
  refine k_loop (fun (⟨n, rid⟩ : Nat × (Nat → Nat)) st => st.fr 0 = .ptr id 1 0 0 ∧ st.fr 1 = .sl 4 (boolA acts) [] false ∧ st.fr 5 = .ptr nx 1 0 0 ∧ st.fr 6 = .ptr (nx + 1) 1 0 0 ∧ st.fr 7 = .ref (nx + 2) n 0 n ∧ st.fr 22 = .int .i64 ((r + 1 : Nat) : Int) ∧ st.fr 23 = .int .i64 n ∧ st.h nx = ⟨39, [.agg [.bool false, .nil, .nil]], true, false, true⟩ ∧ st.h (nx + 1) = ⟨93, [.agg [.sl 48 cl [] false]], true, false, true⟩ ∧
      st.h (nx + 2) = ⟨48, refsL rid n (r + 2), (n == 0), true, true⟩ ∧ RowsG 39 (ratM U) st.h (nx + 3) st.nx (nx + 2) rid n (r + 2) rm false ∧ (∀ i, i < nx → st.h i = h i) ∧ nx + 3 ≤ st.nx ∧ n ≤ r + 1) (fun (⟨n, _⟩ : Nat × (Nat → Nat)) => r + 1 - n) (0, fun i => i)
    ⟨(by simp [upd_app] <;> omega), (by simp [upd_app] <;> omega), (by simp [upd_app] <;> omega), (by simp [upd_app] <;> omega), (by simp [upd_app] <;> omega), (by simp [upd_app] <;> omega), (by simp [upd_app] <;> omega), by simp (disch := omega) only [upd_app, ↓reduceIte, if_neg], by simp (disch := omega) only [upd_app, ↓reduceIte, if_neg], by simp (disch := omega) [upd_app, refsL], RowsG.zero, fun i hi => by simp (disch := omega) only [upd_app, if_neg], by simp, by omega⟩ ?_
  rintro ⟨n, rid⟩ ⟨fr1, h2, nx1⟩ ⟨g0, g1, g5, g6, g7, g22, g23, hm0, hm1, hm2, HR, hold, hnx, hn⟩ J hJ
  simp only at g0 g1 g5 g6 g7 g22 g23 hm0 hm1 hm2 HR hold hnx
  have hb1 : h2 id = ⟨41, [x.sv], true, false, true⟩ := by rw [hold id hid]; exact hb
  have hbl : (boolA acts).length = r := by rw [boolA_len, ha]
  by_cases hin : n < r + 1
  · have keyJ := fun rid' => hJ (n + 1, rid')
    clear hJ
    have hcn := hca n hin
    have hne : ∀ k, nx1 ≤ k → k ≠ id ∧ k ≠ nx + 1 ∧ k ≠ nx + 2 ∧ k ≠ nx := fun k hk => by omega
    simp (disch := omega) only [go_sem, Nat.reduceEqDiff, Nat.reduceBEq, ↓reduceIte, reduceCtorEq, ↓k_appE, g0, g1, g5, g6, g7, g22, g23, e1]
    (repeat (with_reducible refine Or.inr ?_))
    refine k_loop (fun (⟨j, o⟩ : Nat × Nat) st => st.fr 0 = .ptr id 1 0 0 ∧ st.fr 1 = .sl 4 (boolA acts) [] false ∧ st.fr 5 = .ptr nx 1 0 0 ∧ st.fr 6 = .ptr (nx + 1) 1 0 0 ∧ st.fr 7 = .ref (nx + 2) n 0 n ∧ st.fr 22 = .int .i64 ((r + 1 : Nat) : Int) ∧ st.fr 23 = .int .i64 n ∧ st.fr 8 = .int .i64 n ∧ st.fr 10 = .int .i64 j ∧
        (j = 1 ∧ st.fr 9 = .sl 39 [rS U 1] [] true ∨ 2 ≤ j ∧ st.fr 9 = .ref o j 0 j ∧ st.h o = ⟨39, ratM U (mapF j (rm n)), false, true, true⟩ ∧ nx1 ≤ o ∧ o < st.nx) ∧
        (∀ i, i < nx1 → st.h i = h2 i) ∧ nx1 ≤ st.nx ∧ 1 ≤ j ∧ j ≤ r + 1) (fun (⟨j, _⟩ : Nat × Nat) => r + 1 - j) (1, 0)
      ⟨(by simp [upd_app, g0] <;> omega), (by simp [upd_app, g1] <;> omega), (by simp [upd_app, g5] <;> omega), (by simp [upd_app, g6] <;> omega), (by simp [upd_app, g7] <;> omega), (by simp [upd_app, g22] <;> omega), (by simp [upd_app, g23] <;> omega), (by simp [upd_app] <;> omega), (by simp [upd_app] <;> omega), .inl ⟨rfl, (by simp [upd_app] <;> omega)⟩, fun i hi => by simp only, by simp, Nat.le_refl _, by omega⟩ ?_
    rintro ⟨j, o⟩ ⟨fr2, h3, nx2⟩ ⟨s0, s1, s5, s6, s7, s22, s23, s8, s10, hrw, hold3, hnx2, hj1, hj⟩ J2 hJ2
    simp only at s0 s1 s5 s6 s7 s22 s23 s8 s10 hrw hold3 hnx2
    have hc3 : h3 (nx + 1) = ⟨93, [.agg [.sl 48 cl [] false]], true, false, true⟩ := by rw [hold3 _ (by omega)]; exact hm1
    have hel : (ratM U (mapF j (rm n))).length = j := by rw [ratM_length, mapF_len]
    by_cases hjr : j < r + 1
    · have hpl : (ratM polB (mapF (r + 1) (pm n))).length = r + 1 := by rw [ratM_length, mapF_len]
      have hpj : (mapF (r + 1) (pm n))[j]? = some (pm n j) := mapF_at hjr
      have q1 : (nx + 1 = nx2) = False := by simp; omega
      rcases hrw with ⟨ej, s9⟩ | ⟨hj2, s9, hrow, ho1, ho2⟩
      · have hsn : [rS U 1] ++ [rS U (rm n j)] = ratM U (mapF (j + 1) (rm n)) := by rw [ej, mapF_succ, mapF_succ]; simp [mapF, ratM, r0]
        have key := hJ2 (j + 1, nx2 + 1)
        clear hJ2
        by_cases hnj : n = j
        · subst hnj
          have hv : ∀ k, 3000 ≤ k → rS k (-pm n n + 1) = rS U (rm n n) := fun k hk => by
            have := hre n n k (by omega) (by omega) hk
            rw [← this, r2 hj1 (by omega)]
          simp (disch := omega) only [go_sem, Nat.reduceEqDiff, Nat.reduceBEq, ↓reduceIte, reduceCtorEq, ↓k_appE, s0, s1, s5, s6, s7, s22, s23, s8, s9, s10, hc3, hcl, hcn, hpl, hpj, q1, reach, hsn, hv, beq_self_eq_true, decide_true]
          (repeat (with_reducible refine Or.inr ?_))
          exact key _ ⟨(by simp [upd_app, s0] <;> omega), (by simp [upd_app, s1] <;> omega), (by simp [upd_app, s5] <;> omega), (by simp [upd_app, s6] <;> omega), (by simp [upd_app, s7] <;> omega), (by simp [upd_app, s22] <;> omega), (by simp [upd_app, s23] <;> omega), (by simp [upd_app, s8] <;> omega), (by simp [upd_app] <;> omega), .inr ⟨by omega, (by simp [upd_app] <;> omega), by simp (disch := omega) only [upd_app, ↓reduceIte, if_neg, if_pos], by omega, by simp only; omega⟩, fun i hi => by simp (disch := omega) only [upd_app, if_neg, hold3 i hi], by simp only; omega, by omega, hjr⟩ (by simp only; omega)
        · have hnj' : ((n : Int) == (j : Int)) = false := by simp; omega
          have hv : ∀ k, 3000 ≤ k → rS k (-pm n j) = rS U (rm n j) := fun k hk => by
            have := hre n j k (by omega) (by omega) hk
            rw [← this, r3 hj1 (by omega) (by omega)]
          have hv1 : rS polB (-pm n j) = rS U (rm n j) := hv _ (by omega)
          simp (disch := omega) only [go_sem, Nat.reduceEqDiff, Nat.reduceBEq, ↓reduceIte, reduceCtorEq, ↓k_appE, s0, s1, s5, s6, s7, s22, s23, s8, s9, s10, hc3, hcl, hcn, hpl, hpj, q1, reach, hsn, hv1]
          (repeat (with_reducible refine Or.inr ?_))
          exact key _ ⟨(by simp [upd_app, s0] <;> omega), (by simp [upd_app, s1] <;> omega), (by simp [upd_app, s5] <;> omega), (by simp [upd_app, s6] <;> omega), (by simp [upd_app, s7] <;> omega), (by simp [upd_app, s22] <;> omega), (by simp [upd_app, s23] <;> omega), (by simp [upd_app, s8] <;> omega), (by simp [upd_app] <;> omega), .inr ⟨by omega, (by simp [upd_app] <;> omega), by simp (disch := omega) only [upd_app, ↓reduceIte, if_neg, if_pos], by omega, by simp only; omega⟩, fun i hi => by simp (disch := omega) only [upd_app, if_neg, hold3 i hi], by simp only; omega, by omega, hjr⟩ (by simp only; omega)
      · have hsn : ratM U (mapF j (rm n)) ++ [rS U (rm n j)] = ratM U (mapF (j + 1) (rm n)) := by rw [mapF_succ, ratM_snoc]
        have q2 : (o = nx2) = False := by simp; omega
        have q3 : (nx2 = o) = False := by simp; omega
        have key := hJ2 (j + 1, o)
        clear hJ2
        by_cases hnj : n = j
        · subst hnj
          have hv : ∀ k, 3000 ≤ k → rS k (-pm n n + 1) = rS U (rm n n) := fun k hk => by
            have := hre n n k (by omega) (by omega) hk
            rw [← this, r2 hj1 (by omega)]
          simp (disch := omega) only [go_sem, Nat.reduceEqDiff, Nat.reduceBEq, ↓reduceIte, reduceCtorEq, ↓k_appE, s0, s1, s5, s6, s7, s22, s23, s8, s9, s10, hc3, hcl, hcn, hpl, hpj, q1, reach, hsn, q2, q3, hrow, hel, hv, beq_self_eq_true, decide_true]
          (repeat (with_reducible refine Or.inr ?_))
          exact key _ ⟨(by simp [upd_app, s0] <;> omega), (by simp [upd_app, s1] <;> omega), (by simp [upd_app, s5] <;> omega), (by simp [upd_app, s6] <;> omega), (by simp [upd_app, s7] <;> omega), (by simp [upd_app, s22] <;> omega), (by simp [upd_app, s23] <;> omega), (by simp [upd_app, s8] <;> omega), (by simp [upd_app] <;> omega), .inr ⟨by omega, (by simp [upd_app] <;> omega), by simp (disch := omega) only [upd_app, ↓reduceIte, if_neg, if_pos], by omega, by simp only; omega⟩, fun i hi => by simp (disch := omega) only [upd_app, if_neg, hold3 i hi], by simp only; omega, by omega, hjr⟩ (by simp only; omega)
        · have hnj' : ((n : Int) == (j : Int)) = false := by simp; omega
          have hv : ∀ k, 3000 ≤ k → rS k (-pm n j) = rS U (rm n j) := fun k hk => by
            have := hre n j k (by omega) (by omega) hk
            rw [← this, r3 hj1 (by omega) (by omega)]
          have hv1 : rS polB (-pm n j) = rS U (rm n j) := hv _ (by omega)
          simp (disch := omega) only [go_sem, Nat.reduceEqDiff, Nat.reduceBEq, ↓reduceIte, reduceCtorEq, ↓k_appE, s0, s1, s5, s6, s7, s22, s23, s8, s9, s10, hc3, hcl, hcn, hpl, hpj, q1, reach, hsn, q2, q3, hrow, hel, hv1]
          (repeat (with_reducible refine Or.inr ?_))
          exact key _ ⟨(by simp [upd_app, s0] <;> omega), (by simp [upd_app, s1] <;> omega), (by simp [upd_app, s5] <;> omega), (by simp [upd_app, s6] <;> omega), (by simp [upd_app, s7] <;> omega), (by simp [upd_app, s22] <;> omega), (by simp [upd_app, s23] <;> omega), (by simp [upd_app, s8] <;> omega), (by simp [upd_app] <;> omega), .inr ⟨by omega, (by simp [upd_app] <;> omega), by simp (disch := omega) only [upd_app, ↓reduceIte, if_neg, if_pos], by omega, by simp only; omega⟩, fun i hi => by simp (disch := omega) only [upd_app, if_neg, hold3 i hi], by simp only; omega, by omega, hjr⟩ (by simp only; omega)
    · obtain rfl : j = r + 1 := by omega
      rcases hrw with ⟨ej, _⟩ | ⟨hj2, s9, hrow, ho1, ho2⟩
      · omega
      have hb3 : h3 id = ⟨41, [x.sv], true, false, true⟩ := by rw [hold3 id (by omega)]; exact hb1
      have hm3 : h3 (nx + 2) = ⟨48, refsL rid n (r + 2), (n == 0), true, true⟩ := by rw [hold3 _ (by omega)]; exact hm2
      have hm4 : h3 nx = ⟨39, [.agg [.bool false, .nil, .nil]], true, false, true⟩ := by rw [hold3 _ (by omega)]; exact hm0
      have hol : (refsL rid n (r + 2)).length = n := refsL_len
      have k1 : (nx + 2 = nx2) = False := by simp; omega
      have k2 : (o = nx2) = False := by simp; omega
      have k3 : (nx2 = o) = False := by simp; omega
      have k4 : (nx2 = nx + 2) = False := by simp; omega
      have k5 : (o = nx + 2) = False := by simp; omega
      have k6 : (nx + 2 = o) = False := by simp; omega
      have k7 : (id = nx2) = False := by simp; omega
      have k8 : (id = o) = False := by simp; omega
      have hsr : ratM U (mapF (r + 1) (rm n)) ++ [rS U (rm n (r + 1))] = ratM U (mapF (r + 1 + 1) (rm n)) := by rw [mapF_succ (n := r + 1), ratM_snoc]
      have hso : refsL rid n (r + 2) ++ [.ref o (r + 2) 0 (r + 2)] = refsL (ridS rid n o) (n + 1) (r + 2) := refsL_grow
      have hz1 : (n + 1 == 0) = false := by simp
      by_cases c : n < r
      · have hak := act_at (acts := acts) (n := n) (by omega)
        cases hac : actF acts n with
        | true =>
          rw [hac] at hak
          have hv : rS (764 + 1400 + 1) (-(x.cost * ((n : Int) : Rat)) + x.come * x.reward) = rS U (rm n (r + 1)) := by
            have := hfr n (by omega)
            rw [r1]
            rw [hrg, if_pos ⟨c, hac⟩] at this ⊢
            exact rS_to this (by omega)
          simp (disch := omega) only [go_sem, Nat.reduceEqDiff, Nat.reduceBEq, ↓reduceIte, reduceCtorEq, ↓k_appE, s0, s1, s5, s6, s7, s22, s23, s8, s9, s10, hc3, hcl, hb3, hr, hm3, hol, hrow, hel, reach, k1, k2, k3, k4, k5, k6, k7, k8, hsr, hso, hbl, boolA_at, hak, hv]
          (repeat (with_reducible refine Or.inr ?_))
          exact keyJ (ridS rid n o) _ ⟨(by simp [upd_app, s0] <;> omega), (by simp [upd_app, s1] <;> omega), (by simp [upd_app, s5] <;> omega), (by simp [upd_app, s6] <;> omega), (by simp [upd_app] <;> omega), (by simp [upd_app, s22] <;> omega), (by simp [upd_app] <;> omega), by simp (disch := omega) only [upd_app, ↓reduceIte, if_neg, hm4], by simp (disch := omega) only [upd_app, ↓reduceIte, if_neg, hc3], by simp (disch := omega) only [upd_app, ↓reduceIte, if_neg, if_pos, hz1],
          HR.add (by simp (disch := omega) only [upd_app, ↓reduceIte, if_neg, if_pos]) (fun i h1 h2 h3 => by simp (disch := omega) only [upd_app, if_neg, hold3 i]) (by omega) (by omega) (by simp only; omega) (by omega), fun i hi => by simp (disch := omega) only [upd_app, if_neg, hold3 i, hold i hi], by simp only; omega, by omega⟩ (by simp only; omega)
        | false =>
          rw [hac] at hak
          have hv : rS 764 (-(x.cost * ((n : Int) : Rat))) = rS U (rm n (r + 1)) := by
            have := h764 n (by omega)
            rw [r1, hrg, if_neg (by simp [hac])]
            exact rS_to this (by omega)
          simp (disch := omega) only [go_sem, Nat.reduceEqDiff, Nat.reduceBEq, ↓reduceIte, reduceCtorEq, ↓k_appE, s0, s1, s5, s6, s7, s22, s23, s8, s9, s10, hc3, hcl, hb3, hr, hm3, hol, hrow, hel, reach, k1, k2, k3, k4, k5, k6, k7, k8, hsr, hso, hbl, boolA_at, hak, hv]
          (repeat (with_reducible refine Or.inr ?_))
          exact keyJ (ridS rid n o) _ ⟨(by simp [upd_app, s0] <;> omega), (by simp [upd_app, s1] <;> omega), (by simp [upd_app, s5] <;> omega), (by simp [upd_app, s6] <;> omega), (by simp [upd_app] <;> omega), (by simp [upd_app, s22] <;> omega), (by simp [upd_app] <;> omega), by simp (disch := omega) only [upd_app, ↓reduceIte, if_neg, hm4], by simp (disch := omega) only [upd_app, ↓reduceIte, if_neg, hc3], by simp (disch := omega) only [upd_app, ↓reduceIte, if_neg, if_pos, hz1],
          HR.add (by simp (disch := omega) only [upd_app, ↓reduceIte, if_neg, if_pos]) (fun i h1 h2 h3 => by simp (disch := omega) only [upd_app, if_neg, hold3 i]) (by omega) (by omega) (by simp only; omega) (by omega), fun i hi => by simp (disch := omega) only [upd_app, if_neg, hold3 i, hold i hi], by simp only; omega, by omega⟩ (by simp only; omega)
      · have hv : rS 764 (-(x.cost * ((n : Int) : Rat))) = rS U (rm n (r + 1)) := by
          have := h764 n (by omega)
          rw [r1, hrg, if_neg (fun h => c h.1)]
          exact rS_to this (by omega)
        simp (disch := omega) only [go_sem, Nat.reduceEqDiff, Nat.reduceBEq, ↓reduceIte, reduceCtorEq, ↓k_appE, s0, s1, s5, s6, s7, s22, s23, s8, s9, s10, hc3, hcl, hb3, hr, hm3, hol, hrow, hel, reach, k1, k2, k3, k4, k5, k6, k7, k8, hsr, hso, hbl, boolA_at, hv]
        (repeat (with_reducible refine Or.inr ?_))
        exact keyJ (ridS rid n o) _ ⟨(by simp [upd_app, s0] <;> omega), (by simp [upd_app, s1] <;> omega), (by simp [upd_app, s5] <;> omega), (by simp [upd_app, s6] <;> omega), (by simp [upd_app] <;> omega), (by simp [upd_app, s22] <;> omega), (by simp [upd_app] <;> omega), by simp (disch := omega) only [upd_app, ↓reduceIte, if_neg, hm4], by simp (disch := omega) only [upd_app, ↓reduceIte, if_neg, hc3], by simp (disch := omega) only [upd_app, ↓reduceIte, if_neg, if_pos, hz1],
          HR.add (by simp (disch := omega) only [upd_app, ↓reduceIte, if_neg, if_pos]) (fun i h1 h2 h3 => by simp (disch := omega) only [upd_app, if_neg, hold3 i]) (by omega) (by omega) (by simp only; omega) (by omega), fun i hi => by simp (disch := omega) only [upd_app, if_neg, hold3 i, hold i hi], by simp only; omega, by omega⟩ (by simp only; omega)
  · obtain rfl : n = r + 1 := by omega
    have hMt : MatH 48 39 (ratM U) h2 (nx + 2) rid (r + 1) (r + 1 + 1) rm false false := HR.mat (by rw [hm2]; simp)
    have HS : SolS U h2 h2 nx1 (nx + 2) (r + 1) rid ((List.range (r + 1)).map rid) rm false false := ⟨hMt, fun i hi => List.mem_map.2 ⟨i, List.mem_range.2 hi, rfl⟩, fun i _ _ => rfl⟩
    have hS : ∀ i ∈ (List.range (r + 1)).map rid, nx + 3 ≤ i ∧ i < nx1 ∧ i ≠ nx + 2 := fun i hi => by
      obtain ⟨k, hk, rfl⟩ := List.mem_map.1 hi
      exact HR.at_ k (List.mem_range.1 hk)
    have hsol := fun fr => i_l03Solve (fr := fr) HS (by omega) (fun i hi => ⟨(hS i hi).2.1, (hS i hi).2.2⟩) (by omega) (by omega) (by omega) hgS
    simp only [hw, solZ, matA_ownB (T := 39) (xs := ratM (U + U) (mapF (r + 1) fun i => w i (r + 1) / w i i)) (sp := []) (ex := false) (b := true) (by simp) rfl, ratM_length, mapF_len, List.length_nil, Nat.add_zero, List.append_nil] at hsol
    have hc0 : cutH h2 h2 nx1 ((nx + 2) :: (List.range (r + 1)).map rid) nx = ⟨39, [.agg [.bool false, .nil, .nil]], true, false, true⟩ := by
      rw [cutH, if_neg, if_pos (by omega)]
      · exact hm0
      · intro hm
        rcases List.mem_cons.1 hm with e | hm
        · omega
        · have := (hS _ hm).1; omega
    have hci : ∀ i, i < nx → cutH h2 h2 nx1 ((nx + 2) :: (List.range (r + 1)).map rid) i = h i := fun i hi => by
      rw [cutH, if_neg, if_pos (by omega)]
      · exact hold i hi
      · intro hm
        rcases List.mem_cons.1 hm with e | hm
        · omega
        · have := (hS _ hm).1; omega
    generalize cutH h2 h2 nx1 ((nx + 2) :: (List.range (r + 1)).map rid) = hc at *
    simp (disch := omega) only [go_sem, Nat.reduceEqDiff, Nat.reduceBEq, ↓reduceIte, reduceCtorEq, ↓k_appE, g0, g1, g5, g6, g7, g22, g23]
    refine callW_I (hsol _) (by kernel_rfl) (.inl rfl) ?_
    have k1 : (nx1 = nx1 + 1) = False := by simp
    have k2 : (nx1 + 1 = nx1) = False := by simp
    have k3 : (nx = nx1) = False := by simp; omega
    have k4 : (nx1 = nx) = False := by simp; omega
    have k5 : (nx = nx1 + 1) = False := by simp; omega
    have k6 : (nx1 + 1 = nx) = False := by simp; omega
    have tz : Int.toNat 0 = 0 := rfl
    have hat0 : ∀ f : Nat → Rat, (mapF (r + 1) f)[0]? = some (f 0) := fun f => mapF_at (by omega)
    have e0 : rS 64 0 = rS (U + U) 0 := rS_to (zero_fits _ (by decide)) (by omega)
    have hrp : ∀ f : Nat → Rat, (ratM (U + U) (mapF (r + 1) f)).set 0 (rS (U + U) 0) = ratM (U + U) (mapF (r + 1) fun i => if i = 0 then 0 else f i) := fun f => row_put rfl
    simp (disch := omega) only [go_sem, Nat.reduceEqDiff, Nat.reduceBEq, ↓reduceIte, reduceCtorEq, ↓k_appE, g0, g1, g5, g6, g7, g22, g23, hc0, k1, k2, k3, k4, k5, k6, hat0, e0, hrp, mapF_len, tz]
    (repeat (with_reducible refine Or.inr ?_))
    rw [← hQ]
    exact postS_frozenC (id := nx1) (n := r + 1) (id2 := nx) (x := rS (U + U) (w 0 (r + 1) / w 0 0)) (.inl rfl) rfl o_sRat (by simp [upd_app] <;> omega) (by simp [upd_app] <;> omega) (by simp (disch := omega) only [upd_app, ↓reduceIte, if_neg, if_pos]) (by simp (disch := omega) only [upd_app, ↓reduceIte, if_neg, if_pos]) ld_sRat (by simp [AV.pure, AV.pureL]) (by simp (disch := omega) only [upd_app, ↓reduceIte, if_neg, if_pos])
      (by simp (disch := omega) only [upd_app, ↓reduceIte, if_neg, if_pos, ratM_length, mapF_len]) (by simp (disch := omega) only [upd_app, ↓reduceIte, if_neg, if_pos]) (by omega) (by simp (disch := omega) only [upd_app, ↓reduceIte, if_neg, if_pos]) (by simp) (fun i hi _ => by simp (disch := omega) only [upd_app, if_neg, hci i hi])
theorem i_l09Relative {fr : Nat → AV} {h : Nat → Blk} {nx id : Nat} {x : MR} {acts : List Bool} (hb : h id = ⟨41, [x.sv], true, false, true⟩) (hid : id < nx) (h1 : 1 ≤ x.room) (h8 : x.room ≤ 8) (ha : acts.length = x.room)
  (f1 : fits 700 x.come) (f2 : fits 700 x.serve) (f3 : fits 700 x.reward) (f4 : fits 700 x.cost) (p1 : 0 < x.come) (p2 : 0 < x.serve) (p3 : x.come + x.serve ≤ 1) :
  InOk Tryz.prog ⟨fr, h, nx⟩ 28 [.ptr id 1 0 0, .sl 4 (boolA acts) [] false] (.tup [lS (relU + relU) (relL x (actF acts)), rS (relU + relU) (relG x (actF acts))]) ⟨fr, h, nx⟩ :=
 i_l09RelativeU (U := relU) (by decide) (by decide) (rel_gS f1 f2 f3 f4 h8) hb hid h1 h8 ha f1 f2 f3 f4 p1 p2 p3
def actS (o : Option MR) (k : Nat) : AV :=
 match o with
 | some x => .tup [x.sv, .bool (decide (k = x.room))]
 | none => .tup [zeroMS, .bool false]
theorem c_l09Acts : callable Tryz.prog 27 = true := by kernel_rfl
theorem s_l09Acts (m : Mdl) (hm0 : m.small) (acts : List Bool) (hl : acts.length ≤ 1000000) : CP Tryz.prog 27 28 m.av [.sl 4 (boolA acts) [] false] (actS (modR m) acts.length) := by
  have hps := cpe (s_l09Parse m hm0) c_l09Parse
  obtain ⟨k, hk⟩ : ∃ k, acts.length = k := ⟨_, rfl⟩
  have hbl : (boolA acts).length = k := by rw [boolA_len, hk]
  rw [hk]
  cases hq : modR m with
  | none =>
    rw [hq] at hps
    rw [actS]
    (intro fr0 h nx id hm hid; refine inOkF_of_wpc (W := ⟨fun _ => false, fun r => if r = 2 then some [(4, 9), (6, 9)] else none⟩) hm' Tryz.func27 rfl (by kernel_rfl) (Nat.le_of_ble_eq_true rfl) (by simp [AV.pure, AV.pureL]) (go_start ?_); generalize hQ : PostF Tryz.prog Tryz.f27 _ _ _ = Q; clear fr0)
    have n1 : (id = nx) = False := by simp; omega
    have n2 : (nx = id) = False := by simp; omega
    simp (disch := first | omega | (simp [upd_app, evA]; done) | (simp [upd_app, evA, *]; done) | fail) only [go_sem, Nat.reduceEqDiff, Nat.reduceBEq, ↓reduceIte, reduceCtorEq, ↓k_appE, hm, hps, n1, n2, hbl]
    (repeat (with_reducible refine Or.inr ?_))
    rw [← hQ]
    exact postF_cell (id := nx) (x := zeroMS) (.inl rfl) rfl o_sMod (by simp [upd_app] <;> omega) (by simp [upd_app]) (by simp [upd_app]) ld_sMod (by simp [upd_app] <;> omega) (by intro i hi; simp only [upd_app]; repeat rw [if_neg (by omega)]) (by simp <;> omega)
  | some x =>
    rw [hq] at hps
    rw [actS]
    by_cases hc : k = x.room
    · rw [decide_eq_true hc]
      (intro fr0 h nx id hm hid; refine inOkF_of_wpc (W := ⟨fun _ => false, fun r => if r = 2 then some [(4, 9), (6, 9)] else none⟩) hm' Tryz.func27 rfl (by kernel_rfl) (Nat.le_of_ble_eq_true rfl) (by simp [AV.pure, AV.pureL]) (go_start ?_); generalize hQ : PostF Tryz.prog Tryz.f27 _ _ _ = Q; clear fr0)
      have n1 : (id = nx) = False := by simp; omega
      have n2 : (nx = id) = False := by simp; omega
      simp (disch := first | omega | (simp [upd_app, evA]; done) | (simp [upd_app, evA, *]; done) | fail) only [go_sem, Nat.reduceEqDiff, Nat.reduceBEq, ↓reduceIte, reduceCtorEq, ↓k_appE, hm, hps, n1, n2, hbl, hc]
      (repeat (with_reducible refine Or.inr ?_))
      rw [← hQ]
      exact postF_cell (id := nx) (x := x.sv) (.inl rfl) rfl o_sMod (by simp [upd_app] <;> omega) (by simp [upd_app]) (by simp [upd_app]) ld_sMod (by simp [upd_app] <;> omega) (by intro i hi; simp only [upd_app]; repeat rw [if_neg (by omega)]) (by simp <;> omega)
    · rw [decide_eq_false hc]
      (intro fr0 h nx id hm hid; refine inOkF_of_wpc (W := ⟨fun _ => false, fun r => if r = 2 then some [(4, 9), (6, 9)] else none⟩) hm' Tryz.func27 rfl (by kernel_rfl) (Nat.le_of_ble_eq_true rfl) (by simp [AV.pure, AV.pureL]) (go_start ?_); generalize hQ : PostF Tryz.prog Tryz.f27 _ _ _ = Q; clear fr0)
      have n1 : (id = nx) = False := by simp; omega
      have n2 : (nx = id) = False := by simp; omega
      simp (disch := first | omega | (simp [upd_app, evA]; done) | (simp [upd_app, evA, *]; done) | fail) only [go_sem, Nat.reduceEqDiff, Nat.reduceBEq, ↓reduceIte, reduceCtorEq, ↓k_appE, hm, hps, n1, n2, hbl]
      (repeat (with_reducible refine Or.inr ?_))
      rw [← hQ]
      exact postF_cell (id := nx) (x := x.sv) (.inl rfl) rfl o_sMod (by simp [upd_app] <;> omega) (by simp [upd_app]) (by simp [upd_app]) ld_sMod (by simp [upd_app] <;> omega) (by intro i hi; simp only [upd_app]; repeat rw [if_neg (by omega)]) (by simp <;> omega)
def actQ (m : Mdl) (acts : List Bool) : Option MR :=
 match modR m with
 | some x => if acts.length = x.room then some x else none
 | none => none
def impT (m : Mdl) (acts : List Bool) : Option (List Bool) :=
 match actQ m acts with
 | some x => some (betL x (relL x (actF acts)))
 | none => none
theorem s_ImproveActs {m : Mdl} {acts : List Bool} (hs : m.small) (hl : acts.length ≤ 1000000) : CallOk Tryz.prog 17 [m.av, .sl 4 (boolA acts) [] false] (optB false (impT m acts)) [] := by
  have hac := cpe (s_l09Acts m hs acts hl) c_l09Acts
  unfold impT actQ
  cases hq : modR m with
  | none =>
    rw [hq, actS] at hac
    (refine callOk_of_wpc (W := fun g => g == 21) true hm' Tryz.func17 rfl (by kernel_rfl) (Nat.le_of_ble_eq_true rfl) (go_start ?_); generalize hQ : Post Tryz.prog Tryz.f17 _ _ _ _ _ = Q; simp only [stIn, matL, matA, st00])
    simp (disch := first | omega | (simp [upd_app, evA]; done) | (simp [upd_app, evA, *]; done) | fail) only [go_sem, Nat.reduceEqDiff, Nat.reduceBEq, ↓reduceIte, reduceCtorEq, hac]
    (repeat (with_reducible refine Or.inr ?_))
    rw [← hQ]
    exact postB_two (.inl rfl) rfl (by simp [upd_app] <;> omega) (by simp [upd_app] <;> omega) rfl rfl
  | some x =>
    rw [hq, actS] at hac
    obtain ⟨f1, f2, f3, f4, k1, k8, hroom, p1, p2, hrw, hco, p3⟩ := modR_fits hq
    by_cases hc : acts.length = x.room
    · simp only [if_pos hc]
      simp only [decide_eq_true hc] at hac
      (refine callOk_of_wpc (W := fun g => g == 21) true hm' Tryz.func17 rfl (by kernel_rfl) (Nat.le_of_ble_eq_true rfl) (go_start ?_); generalize hQ : Post Tryz.prog Tryz.f17 _ _ _ _ _ = Q; simp only [stIn, matL, matA, st00])
      simp (disch := first | omega | (simp [upd_app, evA]; done) | (simp [upd_app, evA, *]; done) | fail) only [go_sem, Nat.reduceEqDiff, Nat.reduceBEq, ↓reduceIte, reduceCtorEq, hac]
      (repeat (with_reducible refine Or.inr ?_))
      refine callW_I (i_l09Relative (id := 1) (x := x) (acts := acts) (by simp [upd_app, hrw, hco]) (by omega) k1 k8 hc f1 f2 f3 f4 p1 p2 p3) (by kernel_rfl) (.inr ⟨rfl, rfl⟩) ?_
      simp (disch := omega) only [go_sem, Nat.reduceEqDiff, Nat.reduceBEq, ↓reduceIte, reduceCtorEq]
      refine callW_I (i_l09Better (id := 1) (x := x) (v := relL x (actF acts)) (M := relU + relU) (by decide) (by simp [upd_app, hrw, hco]) (by omega) k1 k8 relL_len) (by kernel_rfl) (.inl rfl) ?_
      simp (disch := omega) only [go_sem, Nat.reduceEqDiff, Nat.reduceBEq, ↓reduceIte, reduceCtorEq]
      rw [← hQ]
      exact postB_own (id := 3) (n := x.room) (len := x.room) (.inl rfl) rfl (by simp [upd_app] <;> omega) (by simp [upd_app] <;> omega) (by simp [upd_app]) (by simp [upd_app, boolA_len, betL_len]) (by simp [upd_app]) (by simp [upd_app]) (Nat.le_refl _) (by simp only [upd_app, if_true]; exact List.take_of_length_le (by rw [boolA_len, betL_len]; exact Nat.le_refl _)) (by simp [upd_app]) (by simp [upd_app]) (boolA_pure _) rfl
    · simp only [if_neg hc]
      simp only [decide_eq_false hc] at hac
      (refine callOk_of_wpc (W := fun g => g == 21) true hm' Tryz.func17 rfl (by kernel_rfl) (Nat.le_of_ble_eq_true rfl) (go_start ?_); generalize hQ : Post Tryz.prog Tryz.f17 _ _ _ _ _ = Q; simp only [stIn, matL, matA, st00])
      simp (disch := first | omega | (simp [upd_app, evA]; done) | (simp [upd_app, evA, *]; done) | fail) only [go_sem, Nat.reduceEqDiff, Nat.reduceBEq, ↓reduceIte, reduceCtorEq, hac]
      (repeat (with_reducible refine Or.inr ?_))
      rw [← hQ]
      exact postB_two (.inl rfl) rfl (by simp [upd_app] <;> omega) (by simp [upd_app] <;> omega) rfl rfl
theorem w_Mul64 {c : Nat} (hc : c ≤ 13) : CW Tryz.prog 118 [.int .u64 1, .int .u64 c] (.tup [.int .u64 0, .int .u64 c]) := by
 refine cw (by kernel_rfl) (by simp [AV.pure, AV.pureL]) (by simp [AV.pure, AV.pureL]) ?_
 (refine callOk_of_wpc (W := fun _ => false) false hm' Tryz.func118 rfl (by kernel_rfl) (Nat.le_of_ble_eq_true rfl) (go_start ?_); generalize hQ : Post Tryz.prog Tryz.f118 _ _ _ _ _ = Q; simp only [stIn, matL, matA, st00])
 simp (disch := omega) only [go_sem, Nat.reduceEqDiff, Nat.reduceBEq, ↓reduceIte, reduceCtorEq]
 (repeat (with_reducible refine Or.inr ?_))
 rw [← hQ]
 exact post_two (.inl rfl) rfl (by first | (simp [upd_app]; done) | (simp [upd_app]; clear hQ; revert hc; revert c; decide +kernel)) (by first | (simp [upd_app]; done) | (simp [upd_app]; clear hQ; revert hc; revert c; decide +kernel)) rfl rfl
attribute [go_sem] w_Mul64
theorem w_Mul {c : Nat} (hc : c ≤ 13) : CW Tryz.prog 102 [.int .u64 1, .int .u64 c] (.tup [.int .u64 0, .int .u64 c]) := by
 refine cw (by kernel_rfl) (by simp [AV.pure, AV.pureL]) (by simp [AV.pure, AV.pureL]) ?_
 have h1 := w_Mul64 (c := c) hc
 (refine callOk_of_wpc (W := fun _ => false) false hm' Tryz.func102 rfl (by kernel_rfl) (Nat.le_of_ble_eq_true rfl) (go_start ?_); generalize hQ : Post Tryz.prog Tryz.f102 _ _ _ _ _ = Q; simp only [stIn, matL, matA, st00])
 simp (disch := omega) only [go_sem, Nat.reduceEqDiff, Nat.reduceBEq, ↓reduceIte, reduceCtorEq, h1]
 (repeat (with_reducible refine Or.inr ?_))
 rw [← hQ]
 exact post_two (.inl rfl) rfl (by simp [upd_app] <;> omega) (by simp [upd_app] <;> omega) rfl rfl
theorem rep_step {X : List AV} {c i m : Nat} {v : AV} (hl : X.length = c) (ht : X.take i = List.replicate i v) (h : i + m ≤ c) :
  (List.replicate i v ++ List.replicate m v ++ X.drop (i + m)).length = c ∧ (List.replicate i v ++ List.replicate m v ++ X.drop (i + m)).take (i + m) = List.replicate (i + m) v := by
 refine ⟨by simp; omega, ?_⟩
 rw [List.take_left' (by simp), List.replicate_append_replicate]
theorem i_Repeat1 {c : Nat} (hc : c ≤ 13) (h1 : 1 ≤ c) : CallOk Tryz.prog 84 [.sl 53 [rI 64 0] [] true, .int .i64 c] (.own 53 (ratL 64 (List.replicate c 0)) [] true) [] := by
  have hm := w_Mul (c := c) hc
  have hrep : ratL 64 (List.replicate c 0) = List.replicate c (rI 64 0) := by rw [ratL, List.map_replicate]
  rw [hrep]
  (refine callOk_of_wpc (W := fun _ => false) true hm' Tryz.func84 rfl (by kernel_rfl) (Nat.le_of_ble_eq_true rfl) (go_start ?_); generalize hQ : Post Tryz.prog Tryz.f84 _ _ _ _ _ = Q; simp only [stIn, matL, matA, st00])
  have u1 : Tryz.prog.underlying 129 = some (.int .u64) := by kernel_rfl
  have u2 : okT Tryz.prog 129 = true := by kernel_rfl
  have w1 : IntKind.u64.wrap (c : Int) = c := by simp only [IntKind.wrap, IntKind.signed, IntKind.bits, Bool.false_and, Bool.false_eq_true, if_false]; omega
  have w2 : IntKind.u64.wrap 1 = 1 := by decide
  have w3 : IntKind.u64.wrap ((1 : Nat) : Int) = 1 := by decide
  simp (disch := omega) only [go_sem, Nat.reduceEqDiff, Nat.reduceBEq, ↓reduceIte, reduceCtorEq, hm, reach, u1, u2, w1, w2, w3, copyA, List.length_cons, List.length_nil, List.length_replicate, List.take_zero, List.nil_append]
  (repeat (with_reducible refine Or.inr ?_))
  refine k_loop (fun (p : Nat × List AV) st => st.fr 7 = .ref 0 c 0 c ∧ st.fr 8 = .int .i64 p.1 ∧ st.h 0 = ⟨53, p.2, true, true, true⟩ ∧ p.2.length = c ∧ p.2.take p.1 = List.replicate p.1 (rI 64 0) ∧ 1 ≤ p.1 ∧ p.1 ≤ c) (fun p => c - p.1) (1, rI 64 0 :: List.replicate (c - 1) (.agg [.bool false, .nil, .nil]))
    ⟨(by simp [upd_app] <;> omega), (by simp [upd_app] <;> omega), by simp [upd_app], by simp; omega, by simp, by simp, h1⟩ ?_
  rintro ⟨i, X⟩ ⟨fr, h, nx⟩ ⟨g7, g8, hm0, hl, ht, hi1, hi⟩ J hJ
  simp only at g7 g8 hm0 hl ht hi1 hi
  by_cases hin : i < c
  · by_cases hc2 : i ≤ c - i
    · obtain ⟨k1, k2⟩ := rep_step hl ht (m := i) (by omega)
      simp (disch := omega) only [go_sem, Nat.reduceEqDiff, Nat.reduceBEq, ↓reduceIte, reduceCtorEq, g7, g8, hm0, hl, ht, copyA, List.length_replicate, List.drop_zero, Nat.sub_zero]
      (repeat (with_reducible refine Or.inr ?_))
      exact hJ (i + i, List.replicate i (rI 64 0) ++ List.replicate i (rI 64 0) ++ X.drop (i + i)) _ ⟨(by simp [upd_app, g7] <;> omega), (by simp [upd_app] <;> omega), (by simp [upd_app] <;> omega), k1, k2, by simp only; omega, by simp only; omega⟩ (by simp only; omega)
    · obtain ⟨k1, k2⟩ := rep_step hl ht (m := c - i) (by omega)
      have ht2 : X.take (c - i) = List.replicate (c - i) (rI 64 0) := by
        have := congrArg (List.take (c - i)) ht
        rwa [List.take_take, Nat.min_eq_left (by omega), List.take_replicate, Nat.min_eq_left (by omega)] at this
      simp (disch := omega) only [go_sem, Nat.reduceEqDiff, Nat.reduceBEq, ↓reduceIte, reduceCtorEq, g7, g8, hm0, hl, ht, ht2, copyA, List.length_replicate, List.drop_zero, Nat.sub_zero]
      (repeat (with_reducible refine Or.inr ?_))
      exact hJ (i + (c - i), List.replicate i (rI 64 0) ++ List.replicate (c - i) (rI 64 0) ++ X.drop (i + (c - i))) _ ⟨(by simp [upd_app, g7] <;> omega), (by simp [upd_app] <;> omega), (by simp [upd_app] <;> omega), k1, k2, by simp only; omega, by simp only; omega⟩ (by simp only; omega)
  · obtain rfl : i = c := by omega
    rw [List.take_of_length_le (by omega)] at ht
    subst ht
    simp (disch := omega) only [go_sem, Nat.reduceEqDiff, Nat.reduceBEq, ↓reduceIte, reduceCtorEq, g7, g8, hm0]
    rw [← hQ]
    exact post_own (id := 0) (n := i) (len := i) (.inl rfl) rfl (by simp [upd_app] <;> omega) (by simp [hm0]) (by simp [hm0]) (by simp [hm0]) (by simp [hm0]) (Nat.le_refl _) (by simp [hm0]) (by simp [hm0]) (by simp [hm0]) (by rw [← hrep]; simp) rfl
theorem c_nothing {n : Nat} (hn : n ≤ 13) (h1 : 1 ≤ n) : CallOk Tryz.prog 50 [.int .i64 n] (.own 53 (ratL 64 (List.replicate n 0)) [] true) [] := by
 have hw : CW Tryz.prog 48 [.int .i64 0] (rI 64 0) := w_whole (n := 0) (by omega) (by omega)
 (refine callOk_of_wpc (W := fun g => g == 84) true hm' Tryz.func50 rfl (by kernel_rfl) (Nat.le_of_ble_eq_true rfl) (go_start ?_); generalize hQ : Post Tryz.prog Tryz.f50 _ _ _ _ _ = Q; simp only [stIn, matL, matA, st00])
 simp (disch := omega) only [go_sem, Nat.reduceEqDiff, Nat.reduceBEq, ↓reduceIte, reduceCtorEq, hw]
 (repeat (with_reducible refine Or.inr ?_))
 refine callW_O (i_Repeat1 (c := n) hn h1) (by kernel_rfl) (by simp [AV.pure, AV.pureL]) ratL_pure rfl rfl ?_
 simp only [List.length_nil, Nat.add_zero, List.append_nil, ratL_length, List.length_replicate]
 simp (disch := omega) only [go_sem, Nat.reduceEqDiff, Nat.reduceBEq, ↓reduceIte, reduceCtorEq]
 rw [← hQ]
 exact post_own (id := 0) (n := n) (len := n) (.inl rfl) rfl (by simp [upd_app] <;> omega) (by simp [upd_app]) (by simp [upd_app, ratL_length]) (by simp [upd_app]) (by simp [upd_app]) (Nat.le_refl _) (by simp only [upd_app, if_true]; exact List.take_of_length_le (by rw [ratL_length, List.length_replicate]; exact Nat.le_refl _)) (by simp [upd_app, ratL_length]) (by simp [upd_app]) (by simp) rfl
attribute [go_sem] w_Mul
theorem w_letIn {x : MR} {v : List Rat} {M n : Nat} (hM : M ≤ 50000000000) (hn : n + 1 < v.length) (hl : v.length ≤ 1000) : CW Tryz.prog 49 [x.iv, lI M v, .int .i64 n] (.bool (betB x v n)) := by
 refine cw (by kernel_rfl) (by simp [AV.pure, AV.pureL]) (by simp [AV.pure, AV.pureL]) ?_
 obtain ⟨p, hp⟩ := get_some (xs := v) (i := n) (by omega)
 obtain ⟨q, hq⟩ := get_some (xs := v) (i := n + 1) (by omega)
 have hqk : ((n : Int) + 1).toNat = n + 1 := by omega
 have hcmp := w_cmp (m := 700 + M + 1) (n := M) (a := x.reward + q) (b := p) (by omega)
 have hb : betB x v n = decide (0 ≤ cmpR (x.reward + q) p) := by
  rw [betB, getD_of hp, getD_of hq]
  exact decide_eq_decide.2 ((Rat.not_lt (a := x.reward + q) (b := p)).symm.trans ((not_congr cmpR_lt.symm).trans (by omega)))
 rw [hb]
 generalize cmpR (x.reward + q) p = c at *
 by_cases hc : 0 ≤ c
 all_goals
  (refine callOk_of_wpc (W := fun _ => false) false hm' Tryz.func49 rfl (by kernel_rfl) (Nat.le_of_ble_eq_true rfl) (go_start ?_); generalize hQ : Post Tryz.prog Tryz.f49 _ _ _ _ _ = Q; simp only [stIn, matL, matA, st00])
  simp (disch := omega) only [go_sem, Nat.reduceEqDiff, Nat.reduceBEq, ↓reduceIte, reduceCtorEq, hp, hq, hqk, hcmp]
  (repeat (with_reducible refine Or.inr ?_))
  rw [← hQ]
  exact post_one (.inl rfl) rfl (by simp [upd_app, hc] <;> omega) rfl
theorem c_better {x : MR} {v : List Rat} {M : Nat} (hM : M ≤ 50000000000) (hr1 : 1 ≤ x.room) (h8 : x.room ≤ 8) (hv : v.length = x.room + 1) : CallOk Tryz.prog 25 [x.iv, lI M v] (.own 4 (boolA (betL x v)) [] false) [] := by
  obtain ⟨r, hr⟩ : ∃ r, x.room = r := ⟨_, rfl⟩
  rw [betL]
  rw [hr] at hr1 h8 hv ⊢
  (refine callOk_of_wpc (W := fun _ => false) true hm' Tryz.func25 rfl (by kernel_rfl) (Nat.le_of_ble_eq_true rfl) (go_start ?_); generalize hQ : Post Tryz.prog Tryz.f25 _ _ _ _ _ = Q; simp only [stIn, matL, matA, st00])
  simp (disch := omega) only [go_sem, Nat.reduceEqDiff, Nat.reduceBEq, ↓reduceIte, reduceCtorEq, hr]
  refine k_loop (fun (n : Nat) st => st.fr 1 = lI M v ∧ st.fr 2 = .ptr 0 1 0 0 ∧ st.fr 5 = .ref 1 n 0 n ∧ st.fr 9 = .int .i64 r ∧ st.fr 10 = .int .i64 n ∧ st.h 0 = ⟨55, [x.iv], true, false, true⟩ ∧ st.h 1 = ⟨4, boolA ((List.range n).map (betB x v)), (n == 0), true, true⟩ ∧ n ≤ r) (fun n => r - n) 0
    ⟨(by simp [upd_app] <;> omega), (by simp [upd_app] <;> omega), (by simp [upd_app] <;> omega), (by simp [upd_app] <;> omega), (by simp [upd_app] <;> omega), by simp [upd_app, hr], by simp [upd_app, boolA], by omega⟩ ?_
  rintro n ⟨fr1, h2, nx1⟩ ⟨g1, g2, g5, g9, g10, hm0, hm1, hn⟩ J hJ
  simp only at g1 g2 g5 g9 g10 hm0 hm1
  have hel : (boolA ((List.range n).map (betB x v))).length = n := by simp [boolA_len]
  by_cases hin : n < r
  · have hz1 : (n + 1 == 0) = false := by simp
    have hlet := w_letIn (x := x) (v := v) (M := M) (n := n) hM (by omega) (by omega)
    have hsn : boolA ((List.range n).map (betB x v)) ++ [.bool (betB x v n)] = boolA ((List.range (n + 1)).map (betB x v)) := by rw [boolA_snoc, betL_succ]
    generalize betB x v n = b at hlet hsn
    simp (disch := omega) only [go_sem, Nat.reduceEqDiff, Nat.reduceBEq, ↓reduceIte, reduceCtorEq, g1, g2, g5, g9, g10, hm0, hm1, hel, hlet, reach]
    (repeat (with_reducible refine Or.inr ?_))
    exact hJ (n + 1) _ ⟨(by simp [upd_app, g1] <;> omega), (by simp [upd_app, g2] <;> omega), (by simp [upd_app] <;> omega), (by simp [upd_app, g9] <;> omega), (by simp [upd_app] <;> omega), by simp [upd_app, hm0], by simp only [upd_app, ↓reduceIte, hsn, hz1], hin⟩ (by omega)
  · obtain rfl : n = r := by omega
    have hz : (n == 0) = false := by simp; omega
    rw [hz] at hm1
    simp (disch := omega) only [go_sem, Nat.reduceEqDiff, Nat.reduceBEq, ↓reduceIte, reduceCtorEq, g1, g2, g5, g9, g10]
    rw [← hQ]
    exact post_own (id := 1) (n := n) (len := n) (.inl rfl) rfl (by simp [upd_app] <;> omega) (by simp [hm1]) (by simp [hm1, boolA_len]) (by simp [hm1]) (by simp [hm1]) (Nat.le_refl _) (by simp only [hm1]; exact List.take_of_length_le (by simp [boolA_len])) (by simp [hm1]) (by simp [hm1]) (boolA_pure _) rfl
attribute [go_sem] w_letIn
theorem nil_set {rid : Nat → Nat} {i n k : Nat} (h : i < n) : (refsL rid i n ++ List.replicate (n - i) AV.nil).set i (.ref k n 0 n) = refsL (ridS rid i k) (i + 1) n ++ List.replicate (n - (i + 1)) AV.nil := by
 have e : n - i = (n - (i + 1)) + 1 := by omega
 rw [List.set_append_right _ _ (by rw [refsL_len]; exact Nat.le_refl _), refsL_len, Nat.sub_self, e, List.replicate_succ, List.set_cons_zero, ← refsL_grow]
 simp
theorem zeros_rowI {M N : Nat} (hM : 64 ≤ M) : ratL 64 (List.replicate N 0) = ratL M (mapF N fun _ => 0) := by
  have : List.replicate N (0 : Rat) = mapF N fun _ => 0 := by
    apply List.ext_getElem
    · simp [mapF]
    · intro i _ _; simp [mapF]
  rw [this]
  exact List.map_congr_left fun q hq => by
    obtain ⟨i, _, rfl⟩ := List.mem_map.1 hq
    exact rI_re (zero_fits _ (by decide)) (zero_fits _ (by omega))
theorem i_zeros {fr : Nat → AV} {h : Nat → Blk} {nx n M : Nat} (hM : 64 ≤ M) (h1 : 1 ≤ n) (hn : n ≤ 13) :
    InOk Tryz.prog ⟨fr, h, nx⟩ 93 [.int .i64 n] (matA true (.own 59 (rowsO 53 true n fun _ => ratL M (mapF n fun _ => 0)) [] true) ⟨fr, cutH h h nx [], nx⟩).1 (matA true (.own 59 (rowsO 53 true n fun _ => ratL M (mapF n fun _ => 0)) [] true) ⟨fr, cutH h h nx [], nx⟩).2 := by
  refine inOkN_of_wpcD (W := ⟨fun g => g == 84, fun _ => none⟩) hm' Tryz.func93 rfl (by kernel_rfl) (Nat.le_of_ble_eq_true rfl) (fun _ _ _ => .inl rfl) (go_start ?_)
  generalize hQ : PostN Tryz.prog Tryz.f93 _ _ _ _ = Q
  have hrl : ∀ f : Nat → Nat, ∀ i, i ≤ n → (refsL f i n ++ List.replicate (n - i) AV.nil).length = n := fun f i hi => by simp [refsL_len]; omega
  have hb0 : ((n * 24 : Nat) : Int) ≤ 140737488355328 := by omega
  simp (disch := omega) only [go_sem, Nat.reduceEqDiff, Nat.reduceBEq, ↓reduceIte, reduceCtorEq, List.length_replicate, reach, hb0]
  refine k_loop (fun (⟨i, rid⟩ : Nat × (Nat → Nat)) st => st.fr 0 = .int .i64 n ∧ st.fr 3 = .ref nx n 0 n ∧ st.fr 8 = .int .i64 n ∧ st.fr 9 = .int .i64 i ∧ st.h nx = ⟨59, refsL rid i n ++ List.replicate (n - i) .nil, true, true, true⟩ ∧
      RowsG 53 (ratL M) st.h (nx + 1) st.nx nx rid i n (fun _ _ => 0) true ∧ (∀ i, i < nx → st.h i = h i) ∧ nx + 1 ≤ st.nx ∧ i ≤ n) (fun (⟨i, _⟩ : Nat × (Nat → Nat)) => n - i) (0, fun i => i)
    ⟨(by simp [upd_app] <;> omega), (by simp [upd_app] <;> omega), (by simp [upd_app] <;> omega), (by simp [upd_app] <;> omega), by simp [upd_app, refsL], RowsG.zero, fun i hi => by simp (disch := omega) only [upd_app, if_neg], by simp, by omega⟩ ?_
  rintro ⟨i, rid⟩ ⟨fr1, h2, nx1⟩ ⟨g0, g3, g8, g9, hm0, HR, hold, hnx, hi⟩ J hJ
  simp only at g0 g3 g8 g9 hm0 HR hold hnx
  by_cases hin : i < n
  · have keyJ := fun rid' => hJ (i + 1, rid')
    clear hJ
    have hw : CW Tryz.prog 48 [.int .i64 0] (rI 64 0) := w_whole (n := 0) (by omega) (by omega)
    have hri := hrl rid i hi
    have hst := fun k => nil_set (rid := rid) (i := i) (n := n) (k := k) hin
    have n1 : (nx = nx1) = False := by simp; omega
    have n2 : (nx1 = nx) = False := by simp; omega
    simp (disch := omega) only [go_sem, Nat.reduceEqDiff, Nat.reduceBEq, ↓reduceIte, reduceCtorEq, g0, g3, g8, g9, hw]
    (repeat (with_reducible refine Or.inr ?_))
    refine callW_O (i_Repeat1 (c := n) hn h1) (by kernel_rfl) (by simp [AV.pure, AV.pureL]) ratL_pure rfl rfl ?_
    simp only [List.length_nil, Nat.add_zero, List.append_nil, ratL_length, List.length_replicate, zeros_rowI hM]
    have hai : (refsL rid i n ++ List.replicate (n - i) AV.nil)[i]? = some .nil := by
      rw [List.getElem?_append_right (by rw [refsL_len]; exact Nat.le_refl _), refsL_len, Nat.sub_self, List.getElem?_replicate, if_pos (by omega)]
    simp (disch := omega) only [go_sem, Nat.reduceEqDiff, Nat.reduceBEq, ↓reduceIte, reduceCtorEq, g0, g3, g8, g9, hm0, hri, hst, n1, n2, hai, mapF_len]
    (repeat (with_reducible refine Or.inr ?_))
    exact keyJ (ridS rid i nx1) _ ⟨(by simp [upd_app, g0] <;> omega), (by simp [upd_app, g3] <;> omega), (by simp [upd_app, g8] <;> omega), (by simp [upd_app] <;> omega), by simp (disch := omega) only [upd_app, ↓reduceIte, if_neg, if_pos], HR.add (by simp (disch := omega) only [upd_app, ↓reduceIte, if_neg, if_pos]) (fun k h1 h2 h3 => by simp (disch := omega) only [upd_app, if_neg]) (by omega) (by omega) (by simp only; omega) (by omega),
      fun k hk => by simp (disch := omega) only [upd_app, if_neg, hold k hk], by simp only; omega, hin⟩ (by simp only; omega)
  · obtain rfl : i = n := by omega
    simp (disch := omega) only [go_sem, Nat.reduceEqDiff, Nat.reduceBEq, ↓reduceIte, reduceCtorEq, g0, g3, g8, g9]
    rw [← hQ]
    have hm1 : h2 nx = ⟨59, refsL rid i i, true, true, true⟩ := by rw [hm0, Nat.sub_self]; simp
    refine ⟨trivial, ⟨.ref nx i 0 i, nx :: (List.range i).map rid, by simp [resV, resL, resA, upd_app, g3], ?_, ?_, ?_⟩, fun k hk _ => by simp only; exact hold k hk⟩
    · exact ownA_rows (d := 6) (by simp only; exact hm1) (fun k hk => ⟨by simp only; exact HR.row k hk, by rw [ratL_length, mapF_len], by simp⟩)
    · refine List.nodup_cons.2 ⟨fun hm => ?_, ?_⟩
      · obtain ⟨k, hk, e⟩ := List.mem_map.1 hm
        exact (HR.at_ k (List.mem_range.1 hk)).2.2 e
      · rw [List.Nodup, List.pairwise_map]
        exact List.Pairwise.imp_of_mem (fun {a b} ha hb hne e => hne (HR.inj a b (List.mem_range.1 ha) (List.mem_range.1 hb) e)) List.nodup_range
    · intro k hk
      rcases List.mem_cons.1 hk with rfl | hk
      · exact Nat.le_refl _
      · obtain ⟨q, hq, rfl⟩ := List.mem_map.1 hk
        have := (HR.at_ q (List.mem_range.1 hq)).1
        omega
theorem rI_to {k M : Nat} {q : Rat} (h : fits k q) (hk : k ≤ M) : rI k q = rI M q := rI_re h (fits_mono h hk)
def rowT (pm : Mx) (n : Nat) (s : Nat → Rat) : Mx := fun i j => if i < n then pm i j else if i = n then s j else 0
theorem rowT_zero {pm : Mx} {n : Nat} : rowT pm n (fun _ => 0) = fun i j => if i < n then pm i j else 0 := by
  funext i j; unfold rowT; split
  · rfl
  · split <;> rfl
theorem rowT_next {pm : Mx} {n : Nat} : rowT pm n (pm n) = rowT pm (n + 1) (fun _ => 0) := by
  rw [rowT_zero]; funext i j; unfold rowT
  by_cases h : i < n
  · rw [if_pos h, if_pos (by omega)]
  · rw [if_neg h]
    by_cases h2 : i = n
    · rw [if_pos h2, if_pos (by omega), h2]
    · rw [if_neg h2, if_neg (by omega)]
theorem rowT_at {pm : Mx} {n : Nat} {s : Nat → Rat} : rowT pm n s n = s := by
 funext j; unfold rowT; rw [if_neg (Nat.lt_irrefl n), if_pos rfl]
section
variable {x : MR} {acts : List Bool} {n : Nat}
def chS (x : MR) (acts : List Bool) (n : Nat) : Nat → Nat → Rat
 | 0 => fun _ => 0
 | 1 => ch1 x.come (toF x.room (actF acts)) n
 | 2 => ch2 x.come x.serve (toF x.room (actF acts)) n
 | _ => polM x acts n
theorem chS_1 (j : Nat) : chS x acts n 1 j = if j = toF x.room (actF acts) n then chS x acts n 0 (toF x.room (actF acts) n) + x.come else chS x acts n 0 j := by
  simp only [chS, ch1]; split
  · rw [Rat.zero_add]
  · rfl
theorem chS_2 (j : Nat) : chS x acts n 2 j = if j = n - 1 then chS x acts n 1 (n - 1) + x.serve else chS x acts n 1 j := by
  simp only [chS, ch2]; split
  · rename_i h; rw [h]
  · rw [Rat.add_zero]
theorem chS_3 (j : Nat) : chS x acts n 3 j = if j = n then chS x acts n 2 n + stayR x else chS x acts n 2 j := by
  simp only [chS, polM, chF_eq]; split
  · rename_i h; rw [h]
  · rw [Rat.add_zero]
theorem chS_fits {k : Nat} (f1 : fits 700 x.come) (f2 : fits 700 x.serve) (j : Nat) : fits polB (chS x acts n k j) := by
 match k with
 | 0 => exact zero_fits _ (by decide)
 | 1 => exact fits_mono (ch1_fits f1) (by decide)
 | 2 => exact fits_mono (ch2_fits f1 f2) (by decide)
 | k + 3 => exact pol_fits f1 f2 n j
end
end Go.Proofs.YtgfencjehdbjcaaGreatDoor
