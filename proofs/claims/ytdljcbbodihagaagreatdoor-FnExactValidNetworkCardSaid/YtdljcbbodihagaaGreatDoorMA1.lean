/- A part of the proof. -/
import Derived.Test.YtdljcbbodihagaaGreatDoorM13

set_option linter.unusedVariables false
set_option linter.unusedSimpArgs false
set_option maxRecDepth 100000
namespace Go.Proofs.YtdljcbbodihagaaGreatDoor
open Go

theorem snpP_false {x : Txs} : snpP false (rowOf x) = .sl 9 (strA x) [] false := by unfold snpP; rw [if_neg nil_false]; rfl
theorem snpSS_false {rs : List Txs} : snpSS false (rowsP rs) = .sl 22 (rowsT rs) [] false := by
 unfold snpSS; rw [if_neg (fun h => by cases h.1)]
 congr 1
 rw [rowsP, rowsT, List.map_map]
 exact List.map_congr_left fun x _ => snpP_false
theorem snpNet_false {m : Ntw} : AV.agg [snpP false (rowOf m.arr), snpP false (rowOf m.srv), snpSS false (rowsP m.rts)] = m.av := by rw [snpP_false, snpP_false, snpSS_false]
theorem sub_snpP {P : Program} {b : Bool} {x : Txs} : Sub P (snpP b (rowOf x)) (.sl 9 (strA x) [] false) := by
  unfold snpP
  split
  · rename_i h
    have : x = [] := h.2
    subst this
    exact sub_nil
  · exact Sub.refl _
theorem subEl_snpP {P : Program} {b : Bool} {x : Txs} : SubEl P (snpP b (rowOf x)) (.sl 9 (strA x) [] false) := by
  refine ⟨sub_snpP, ?_, by simp [AV.pure, AV.pureL, strA_pure], fun t ht => ?_⟩
  · unfold snpP; split
    · rfl
    · simp [AV.pure, AV.pureL, strA_pure, rowOf]
  · unfold snpP at ht; split at ht
    · simpa [AV.el, AV.cells, AV.one] using ht
    · simpa [AV.el, AV.cells, AV.one] using ht
theorem subLL_rows {P : Program} {b : Bool} : ∀ {rs : List Txs}, SubLL P ((rowsP rs).map (snpP b)) (rowsT rs)
 | [] => .nil
 | r :: rs => .cons subEl_snpP subLL_rows
theorem sub_snpSS {P : Program} {b : Bool} {rs : List Txs} : Sub P (snpSS b (rowsP rs)) (.sl 22 (rowsT rs) [] false) := by
  unfold snpSS
  split
  · rename_i h
    have : rs = [] := by have := h.2; simpa [rowsP] using this
    subst this
    exact sub_nil
  · exact sub_slL subLL_rows
theorem sub_snpNet {P : Program} {b : Bool} {m : Ntw} : Sub P (.agg [snpP b (rowOf m.arr), snpP b (rowOf m.srv), snpSS b (rowsP m.rts)]) m.av :=
 sub_agg (SubL.cons sub_snpP (SubL.cons sub_snpP (SubL.cons sub_snpSS .nil)))
section
variable {P : Program} {W : FuncId → Bool} {d : Option Tmp} {ops : Array Oper} {os : List Oper} {fr : Nat → AV} {h : Nat → Blk} {nx : Nat} {K : St → Prop} {t : TokC ⟨d, ops, os, fr, h, nx, K⟩} {g : FuncId} {al : List AV}
theorem callW_SX {sargs : List AV} {r : AV} (hc : CallOk P g sargs r []) (hg : callable P g = true) (hs : ∃ ids, snapL (snapA ⟨fr, h, nx⟩ 8) al = some (sargs, ids)) (hr : r.pure = true) (ht : r.solid = true)
  (hk : wpos P W ops os (St.put ⟨fr, h, nx⟩ d r) K) : callW P W g al ⟨d, ops, os, fr, h, nx, K⟩ t := by
 obtain ⟨ids, hs⟩ := hs
 exact callW_S hc hg hs hr ht hk
end
theorem snapNet {st : St} {b : Bool} {hi lo : Nat} {m : Ntw} {e : AV} (H : NetN st.h b hi lo m e) : ∃ ids, snapL (snapA st 8) [e] = some ([.agg [snpP b (rowOf m.arr), snpP b (rowOf m.srv), snpSS b (rowsP m.rts)]], ids) := by
 obtain ⟨ids, h⟩ := H.snap
 exact ⟨ids ++ [], by simp [snapL, h]⟩
theorem snapNetF {st : St} {hi lo : Nat} {m : Ntw} {e : AV} (H : NetN st.h false hi lo m e) : ∃ ids, snapL (snapA st 8) [e] = some ([m.av], ids) := by rw [← snpNet_false]; exact snapNet H
theorem law_ValidNetwork (m : Ntw) (hl : m.lens) : CallOk Tryz.prog 3 [m.av] (.bool true) [] := by
  have hz := w_szNetwork m hl
  have pu : AV.pureL [m.av] = true := by simp [AV.pure, AV.pureL, strA_pure, rowsT_pure]
  obtain ⟨z, hzz⟩ : ∃ z, szN m 1000000 = z := ⟨_, rfl⟩
  rw [hzz] at hz
  by_cases hneg : z < 0
  · (refine callOk_of_wpcD (W := ⟨fun g => g == 6, fun r => if r = 10 then some [(0, 0), (0, 2)] else none⟩) false hm' Tryz.func3 rfl (by kernel_rfl) (Nat.le_of_ble_eq_true rfl) (go_start ?_); generalize hQ : Post Tryz.prog Tryz.f3 _ _ _ _ _ = Q; simp only [stIn, matL, matA, st00, matL_pure _ _ _ pu])
    simp (disch := omega) only [go_sem, Nat.reduceEqDiff, Nat.reduceBEq, ↓reduceIte, reduceCtorEq, ↓k_appE, hz]
    (repeat (with_reducible refine Or.inr ?_))
    rw [← hQ]
    exact post_one (.inl rfl) rfl (by simp [upd_app] <;> omega) rfl
  have hs : m.small := szN_small (by rw [hzz]; exact hneg)
  have hT := l_toNetwork m false hs
  have hT2 := l_toNetwork m true hs
  have hS := s_ValidNetwork hs rowsT_pure
  have hI := i_ValidNetwork hs
  have hI2 : CallOk Tryz.prog 7 [.agg [snpP true (rowOf m.arr), snpP true (rowOf m.srv), snpSS true (rowsP m.rts)]] (.bool (validN m)) [] := hI.args (SubL.cons sub_snpNet .nil)
  generalize validN m = v at *
  have hvv : (v == v) = true := by simp
  have pf : AV.pureL [m.av, .bool false] = true := by simp [AV.pure, AV.pureL, strA_pure, rowsT_pure]
  have pt : AV.pureL [m.av, .bool true] = true := by simp [AV.pure, AV.pureL, strA_pure, rowsT_pure]
  (refine callOk_of_wpcD (W := ⟨fun g => g == 6, fun r => if r = 10 then some [(0, 0), (0, 2)] else none⟩) false hm' Tryz.func3 rfl (by kernel_rfl) (Nat.le_of_ble_eq_true rfl) (go_start ?_); generalize hQ : Post Tryz.prog Tryz.f3 _ _ _ _ _ = Q; simp only [stIn, matL, matA, st00, matL_pure _ _ _ pu])
  simp (disch := omega) only [go_sem, Nat.reduceEqDiff, Nat.reduceBEq, ↓reduceIte, reduceCtorEq, ↓k_appE, hz]
  (repeat (with_reducible refine Or.inr ?_))
  refine callW_MX hT (by kernel_rfl) pf rfl (fun st => matA_net st) ?_
  rintro e1 h1 nx1 ⟨k1, k2, N1⟩
  simp only at k1 k2 N1
  have a0 : h1 0 = ⟨25, [m.av], true, false, true⟩ := by rw [k2 0 (by omega)]; rfl
  simp (disch := omega) only [go_sem, Nat.reduceEqDiff, Nat.reduceBEq, ↓reduceIte, reduceCtorEq, ↓k_appE]
  refine callW_SX hS (by kernel_rfl) (snapNetF N1) rfl rfl ?_
  simp (disch := omega) only [go_sem, Nat.reduceEqDiff, Nat.reduceBEq, ↓reduceIte, reduceCtorEq, ↓k_appE, a0]
  refine callW_MX hT (by kernel_rfl) pf rfl (fun st => matA_net st) ?_
  rintro e2 h2 nx2 ⟨l1, l2, N2⟩
  simp only at l1 l2 N2
  have b0 : h2 0 = ⟨25, [m.av], true, false, true⟩ := by rw [l2 0 (by omega)]; exact a0
  have N2' := N2
  obtain ⟨i1, i2, o, es, lo1, hi1, rfl, p1, p2, p3, _⟩ := N2.out
  have n1 : (0 = nx2) = False := by simp; omega
  simp (disch := omega) only [go_sem, Nat.reduceEqDiff, Nat.reduceBEq, ↓reduceIte, reduceCtorEq, ↓k_appE, b0, n1]
  refine callW_SX hI (by kernel_rfl) (snapNetF (N2'.keep (fun i h1 h2 => by simp (disch := omega) only [upd_app, if_neg]) (Nat.le_refl _))) rfl rfl ?_
  simp (disch := omega) only [go_sem, Nat.reduceEqDiff, Nat.reduceBEq, ↓reduceIte, reduceCtorEq, ↓k_appE, b0, n1, hvv]
  refine callW_MX hT (by kernel_rfl) pf rfl (fun st => matA_net st) ?_
  rintro e3 h3 nx3 ⟨m1, m2, N3⟩
  simp only at m1 m2 N3
  have c0 : h3 0 = ⟨25, [m.av], true, false, true⟩ := by rw [m2 0 (by omega)]; simp (disch := omega) only [upd_app, if_neg, b0]
  have c1 : h3 nx2 = ⟨28, [.agg [.ref i1 (m.arr.length + roomB m.arr.length) 0 m.arr.length, .ref i2 (m.srv.length + roomB m.srv.length) 0 m.srv.length, .ref o (m.rts.length + roomB m.rts.length) 0 m.rts.length]], true, false, true⟩ := by rw [m2 nx2 (by omega)]; simp (disch := omega) only [upd_app, ↓reduceIte, if_pos]
  have N2a := N2'.keep (h' := h3) (hi' := nx2) (fun i q1 q2 => by rw [m2 i (by omega)]; simp (disch := omega) only [upd_app, if_neg]) (Nat.le_refl _)
  simp (disch := omega) only [go_sem, Nat.reduceEqDiff, Nat.reduceBEq, ↓reduceIte, reduceCtorEq, ↓k_appE, c0, c1]
  refine callW_I (i_intactNetwork N2a N3 hs (by omega) (Nat.le_refl _)) (by kernel_rfl) (.inr ⟨rfl, rfl⟩) ?_
  simp (disch := omega) only [go_sem, Nat.reduceEqDiff, Nat.reduceBEq, ↓reduceIte, reduceCtorEq, ↓k_appE, c0, c1, n1]
  refine callW_MX hT2 (by kernel_rfl) pt rfl (fun st => matA_net st) ?_
  rintro e4 h4 nx4 ⟨r1, r2, N4⟩
  simp only at r1 r2 N4
  simp (disch := omega) only [go_sem, Nat.reduceEqDiff, Nat.reduceBEq, ↓reduceIte, reduceCtorEq, ↓k_appE]
  refine callW_SX hI2 (by kernel_rfl) (snapNet N4) rfl rfl ?_
  simp (disch := omega) only [go_sem, Nat.reduceEqDiff, Nat.reduceBEq, ↓reduceIte, reduceCtorEq, ↓k_appE, hvv]
  rw [← hQ]
  exact post_one (.inl rfl) rfl (by simp [upd_app] <;> omega) rfl
theorem isC_strs' {x : AV} (h : isC (.sl 9 .str) x) : ∃ xs : Txs, x = .sl 9 (strA xs) [] false ∧ txsLen xs := by
  obtain ⟨ys, rfl, hl, hy⟩ := h
  have : ∃ xs : Txs, ys = strA xs ∧ ∀ s ∈ xs, s.length < 4611686018427387904 := by
    clear hl
    induction ys with
    | nil => exact ⟨[], rfl, by simp⟩
    | cons y ys ih =>
      obtain ⟨xs, rfl, h1⟩ := ih fun z hz => hy z (by simp [hz])
      obtain ⟨s, rfl, hs⟩ := hy y (by simp)
      exact ⟨s :: xs, rfl, by intro u hu; rcases List.mem_cons.1 hu with rfl | hu; · exact hs
                              · exact h1 u hu⟩
  obtain ⟨xs, rfl, h1⟩ := this
  exact ⟨xs, rfl, by rw [strA_length] at hl; exact hl, h1⟩
theorem isC_rows {x : AV} (h : isC (.sl 22 (.sl 9 .str)) x) : ∃ rs : List Txs, x = .sl 22 (rowsT rs) [] false ∧ rs.length < 4611686018427387904 ∧ ∀ r ∈ rs, txsLen r := by
  obtain ⟨ys, rfl, hl, hy⟩ := h
  have : ∃ rs : List Txs, ys = rowsT rs ∧ ∀ r ∈ rs, txsLen r := by
    clear hl
    induction ys with
    | nil => exact ⟨[], rfl, by simp⟩
    | cons y ys ih =>
      obtain ⟨rs, rfl, h1⟩ := ih fun z hz => hy z (by simp [hz])
      obtain ⟨r, rfl, hs⟩ := isC_strs' (hy y (by simp))
      exact ⟨r :: rs, rfl, by intro u hu; rcases List.mem_cons.1 hu with rfl | hu; · exact hs
                              · exact h1 u hu⟩
  obtain ⟨rs, rfl, h1⟩ := this
  exact ⟨rs, rfl, by rw [rowsT_len] at hl; exact hl, h1⟩
def tyNet : Ty := .st [.sl 9 .str, .sl 9 .str, .sl 22 (.sl 9 .str)]
theorem isT_net {x : AV} (h : isT tyNet x) : ∃ m : Ntw, x = m.av ∧ m.lens := by
 obtain ⟨xs, rfl, h⟩ := h
 obtain ⟨_, _, rfl, h1, _, _, rfl, h2, _, _, rfl, h3, rfl⟩ := h
 obtain ⟨a, rfl, ha⟩ := isC_strs' h1
 obtain ⟨s, rfl, hs⟩ := isC_strs' h2
 obtain ⟨r, rfl, hr, hr2⟩ := isC_rows h3
 exact ⟨⟨a, s, r⟩, rfl, ha, hs, hr, hr2⟩
theorem lawOk_ValidNetwork : LawOk Tryz.prog 3 [.st [.sl 9 (.str), .sl 9 (.str), .sl 22 (.sl 9 (.str))]] := by
 intro xs h
 obtain ⟨x, _, rfl, hx, rfl⟩ := h
 obtain ⟨m, rfl, hm⟩ := isT_net hx
 exact law_ValidNetwork m hm
end Go.Proofs.YtdljcbbodihagaaGreatDoor
