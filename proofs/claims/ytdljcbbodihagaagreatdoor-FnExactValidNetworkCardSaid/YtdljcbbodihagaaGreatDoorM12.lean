/- Ground 12. -/
import Derived.ProofKit
import Derived.LaidMore
import Derived.LaidLaws
import Derived.LaidHandle
import Derived.OpenShut
import Derived.WalkKit
import Derived.ShutString
import Derived.SizedLaws
import Derived.SliceStrings
import Derived.Below
import Derived.Carry
import Derived.Stop.Joined
import Derived.SevenTiedAt
import Derived.Stop.LaidErr
import Derived.Test.YtdljcbbodihagaaGreatDoorM11

set_option linter.unusedVariables false
set_option linter.unusedSimpArgs false
set_option maxRecDepth 100000
namespace Go.Proofs.YtdljcbbodihagaaGreatDoor
open Go

section
variable {P : Program} {W : FuncId → Bool} {d : Option Tmp} {ops : Array Oper} {os : List Oper} {fr : Nat → AV} {h : Nat → Blk} {nx : Nat} {K : St → Prop} {t : TokC ⟨d, ops, os, fr, h, nx, K⟩} {g : FuncId} {al : List AV}
theorem callW_MX {C : St → AV → St → Prop} {r : AV} (hc : CallOk P g al r []) (hg : callable P g = true) (hp : AV.pureL al = true) (hW : W g = true) (hm : ∀ st : St, ∃ x st', matA true r st = (x, st') ∧ st'.fr = st.fr ∧ C st x st')
  (hk : ∀ x h' nx', C ⟨fr, h, nx⟩ x ⟨fr, h', nx'⟩ → wpos P W ops os (St.put ⟨fr, h', nx'⟩ d x) K) : callW P W g al ⟨d, ops, os, fr, h, nx, K⟩ t := by
 obtain ⟨x, ⟨fr', h', nx'⟩, m1, m2, m3⟩ := hm ⟨fr, h, nx⟩
 simp only at m2
 subst m2
 exact callW_M hc hg hp hW m1 (hk x h' nx' m3)
end
def rowOf (x : Txs) : Row := (x, spareL x.length)
theorem l_toP (x : Txs) (b : Bool) (hx : x.length ≤ 1000000) : CallOk Tryz.prog 12 [.sl 9 (strA x) [] false, .bool b] (ownP b (rowOf x)) [] := by
  unfold ownP
  by_cases hn : rowNil b (rowOf x)
  · rw [if_pos hn]
    obtain ⟨rfl, h2⟩ := hn
    have : x = [] := h2
    subst this
    exact l_toNil
  · rw [if_neg hn]
    refine l_to x b ?_ hx
    cases b with
    | false => exact .inl rfl
    | true => exact .inr fun h => hn ⟨rfl, h⟩
theorem l_toNilSS : CallOk Tryz.prog 13 [.sl 22 (rowsT []) [] false, .bool true] .nil [] := by
 (refine callOk_of_wpc (W := fun g => g == 12) false hm' Tryz.func13 rfl (by kernel_rfl) (Nat.le_of_ble_eq_true rfl) (go_start ?_); generalize hQ : Post Tryz.prog Tryz.f13 _ _ _ _ _ = Q; simp only [stIn, matL, matA, st00])
 simp (disch := omega) only [go_sem, Nat.reduceEqDiff, Nat.reduceBEq, ↓reduceIte, reduceCtorEq, rowsT_len, List.length_nil]
 rw [← hQ]
 exact post_one (.inl rfl) rfl (by simp [upd_app] <;> omega) rfl
theorem l_toPP (rs : List Txs) (b : Bool) (hn : rs.length ≤ 1000000) (hr : ∀ r ∈ rs, r.length ≤ 1000000) : CallOk Tryz.prog 13 [.sl 22 (rowsT rs) [] false, .bool b] (ownSS b (rowsP rs) (roomB rs.length)) [] := by
  unfold ownSS
  by_cases hq : nestNil b (rowsP rs)
  · rw [if_pos hq]
    obtain ⟨rfl, h2⟩ := hq
    have : rs = [] := by simpa [rowsP] using h2
    subst this
    exact l_toNilSS
  · rw [if_neg hq]
    refine l_toSS rs b ?_ hn hr
    cases b with
    | false => exact .inl rfl
    | true => exact .inr fun h => hq ⟨rfl, by rw [h]; rfl⟩
theorem cells1 (e : AV) : AV.cells e = [e] → (match e with | .agg cs => cs | v => [v]) = [e] := fun h => h
theorem RowsN.one1 {h : Nat → Blk} {b : Bool} {hi lo : Nat} {p : Row} {e : AV} (H : RowsN h b hi lo [p] [e]) : AV.el Tryz.prog 22 e = true ∧ AV.cells e = [e] ∧ e.one = true := by
  unfold RowsN at H
  split at H
  · rw [H.1]; exact ⟨elN_strs, rfl, rfl⟩
  · obtain ⟨id, _, _, he, _⟩ := H; rw [he]; exact ⟨elR_strs, rfl, rfl⟩
theorem NestN.one1 {h : Nat → Blk} {b : Bool} {hi lo k : Nat} {rs : List Row} {e : AV} (H : NestN h b hi lo rs k e) : AV.el Tryz.prog 23 e = true ∧ AV.cells e = [e] ∧ e.one = true := by
  unfold NestN at H
  split at H
  · rw [H]; exact ⟨elN_strss, rfl, rfl⟩
  · obtain ⟨o, _, _, _, he, _⟩ := H; rw [he]; exact ⟨elR_strss, rfl, rfl⟩
def ownNet (b : Bool) (m : Ntw) : AV := .agg [ownP b (rowOf m.arr), ownP b (rowOf m.srv), ownSS b (rowsP m.rts) (roomB m.rts.length)]
def NetN (h : Nat → Blk) (b : Bool) (hi lo : Nat) (m : Ntw) (e : AV) : Prop :=
 ∃ e1 e2 e3 m1, e = .agg [e1, e2, e3] ∧ lo ≤ m1 ∧ m1 ≤ hi ∧ RowsN h b m1 lo [rowOf m.arr, rowOf m.srv] [e1, e2] ∧ NestN h b hi m1 (rowsP m.rts) (roomB m.rts.length) e3
theorem matA_net {b : Bool} {m : Ntw} (st : St) : ∃ x st', matA true (ownNet b m) st = (x, st') ∧ st'.fr = st.fr ∧ (st.nx ≤ st'.nx ∧ (∀ i, i < st.nx → st'.h i = st.h i) ∧ NetN st'.h b st'.nx st.nx m x) := by
 obtain ⟨es, s1, a1, a2, a3, a4, a5⟩ := matL_own (b := b) [rowOf m.arr, rowOf m.srv] st
 have hl := a5.len
 obtain ⟨e1, e2, rfl⟩ : ∃ e1 e2, es = [e1, e2] := by
  match es, hl with
  | [e1, e2], _ => exact ⟨e1, e2, rfl⟩
 obtain ⟨e3, s3, c1, c2, c3, c4, c5⟩ := matA_SS (b := b) (rs := rowsP m.rts) (k := roomB m.rts.length) s1
 refine ⟨.agg [e1, e2, e3], s3, ?_, by rw [c2, a2], by omega, fun i hi => by rw [c4 i (by omega), a4 i hi], e1, e2, e3, s1.nx, rfl, a3, c3, a5.keep (Nat.le_refl _) (fun i _ h => c4 i h), c5⟩
 rw [ownNet, matA]
 rw [List.map_cons, List.map_cons, List.map_nil] at a1
 simp only [matL] at a1 ⊢
 simp only [Prod.mk.injEq, List.cons.injEq, and_true] at a1
 obtain ⟨⟨b1, b2⟩, b3⟩ := a1
 rw [b1, b2, b3, c1]
theorem ownA_agg {st : St} {d : Nat} {cs cs' : List AV} {ids : List Nat} (h : snapL (ownA st d) cs = some (cs', ids)) : ownA st (d + 1) (.agg cs) = some (.agg cs', ids) := by
  by_cases hp : (AV.agg cs).pure = true
  · have hp' : AV.pureL cs = true := by simpa [AV.pure] using hp
    rw [snapLo_pure hp'] at h
    cases h
    exact ownA_pure hp
  · rw [ownA]; simp [hp, h]
theorem snapA_agg {st : St} {d : Nat} {cs cs' : List AV} {ids : List Nat} (h : snapL (snapA st d) cs = some (cs', ids)) : snapA st (d + 1) (.agg cs) = some (.agg cs', ids) := by
  by_cases hp : (AV.agg cs).pure = true
  · have hp' : AV.pureL cs = true := by simpa [AV.pure] using hp
    rw [snapL_pure hp'] at h
    cases h
    exact snapA_pure hp
  · rw [snapA]; simp [hp, h]
theorem NestN.shape {h : Nat → Blk} {b : Bool} {hi lo k : Nat} {rs : List Row} {e : AV} (H : NestN h b hi lo rs k e) : e = .nil ∨ ∃ a b c, e = .ref a b 0 c := by
  unfold NestN at H
  split at H
  · exact .inl H
  · obtain ⟨o, _, _, _, he, _⟩ := H; exact .inr ⟨_, _, _, he⟩
theorem NetN.own {st : St} {b : Bool} {hi lo : Nat} {m : Ntw} {e : AV} (H : NetN st.h b hi lo m e) : ∃ ids, ownA st 8 e = some (ownNet b m, ids) ∧ ids.Nodup ∧ ∀ i ∈ ids, lo ≤ i ∧ i < hi := by
  obtain ⟨e1, e2, e3, m1, rfl, k1, k2, k3, k4⟩ := H
  obtain ⟨i1, p1, p2, p3⟩ := RowsN.own (st := st) (d := 6) k3
  obtain ⟨i3, q1, q2, q3⟩ := NestN.own (st := st) (d := 5) k4
  refine ⟨i1 ++ i3, ?_, List.nodup_append.2 ⟨p2, q2, fun a ha b hb e => by have := (p3 a ha).2; have := (q3 b hb).1; omega⟩, fun i hi => ?_⟩
  · refine ownA_agg ?_
    have := snapL_append' p1 (show snapL (ownA st 7) [e3] = some ([ownSS b (rowsP m.rts) (roomB m.rts.length)], i3) by simp [snapL, q1])
    exact this
  · rcases List.mem_append.1 hi with hi | hi
    · have := p3 i hi; omega
    · have := q3 i hi; omega
theorem NetN.snap {st : St} {b : Bool} {hi lo : Nat} {m : Ntw} {e : AV} (H : NetN st.h b hi lo m e) : ∃ ids, snapA st 8 e = some (.agg [snpP b (rowOf m.arr), snpP b (rowOf m.srv), snpSS b (rowsP m.rts)], ids) := by
 obtain ⟨e1, e2, e3, m1, rfl, k1, k2, k3, k4⟩ := H
 obtain ⟨i1, p1⟩ := RowsN.snap (st := st) (d := 6) k3
 obtain ⟨i3, q1⟩ := NestN.snap (st := st) (d := 5) k4
 have := snapL_append' p1 (show snapL (snapA st 7) [e3] = some ([snpSS b (rowsP m.rts)], i3) by simp [snapL, q1])
 exact ⟨i1 ++ i3, snapA_agg this⟩
theorem NetN.keep {h h' : Nat → Blk} {b : Bool} {hi hi' lo : Nat} {m : Ntw} {e : AV} (H : NetN h b hi lo m e) (h1 : ∀ i, lo ≤ i → i < hi → h' i = h i) (h2 : hi ≤ hi') : NetN h' b hi' lo m e := by
 obtain ⟨e1, e2, e3, m1, he, k1, k2, k3, k4⟩ := H
 exact ⟨e1, e2, e3, m1, he, k1, by omega, k3.keep (Nat.le_refl _) (fun i a c => h1 i a (by omega)), k4.keep (fun i a c => h1 i (by omega) c) h2⟩
theorem post_net {P : Program} {fn : Func} {n0 : Nat} {fl b : Bool} {t : Tmp} {T id hi lo : Nat} {x : AV} {m : Ntw} {st : St} {e : Ex} (he : e = .ret ∨ e = .normal) (hr : fn.results.toList = [.cell t T]) (hok : okT P T = true) (hv : st.fr t = .ptr id 1 0 0) (hlv : (st.h id).lv = true) (hx : (st.h id).xs = [x]) (hl : ldA P T x 0 = some x)
  (HN : NetN st.h b hi lo m x) : Post P fn n0 fl true (ownNet b m) [] e st := by
 obtain ⟨ids, z1, z2, _⟩ := HN.own
 refine ⟨by rcases he with rfl | rfl <;> trivial, x, by rw [hr]; simp [resV, resL, resA, hv, hok, loadA, hlv, hx, hl], ids, ?_, .inl rfl⟩
 simp only [if_true]
 exact ⟨z1, z2⟩
set_option maxHeartbeats 1000000 in
theorem l_toNetwork (m : Ntw) (b : Bool) (hs : m.small) : CallOk Tryz.prog 6 [m.av, .bool b] (ownNet b m) [] := by
 obtain ⟨⟨a1, a2⟩, ⟨b1, b2⟩, c1, c2⟩ := hs
 have t1 := l_toP m.arr b a1
 have t2 := l_toP m.srv b b1
 have t3 := l_toPP m.rts b c1 (fun r hr => (c2 r hr).1)
 have pu : AV.pureL [m.av, .bool b] = true := by simp [AV.pure, AV.pureL, strA_pure, rowsT_pure]
 (refine callOk_of_wpc (W := fun g => g == 12 || g == 13) true hm' Tryz.func6 rfl (by kernel_rfl) (Nat.le_of_ble_eq_true rfl) (go_start ?_); generalize hQ : Post Tryz.prog Tryz.f6 _ _ _ _ _ = Q; simp only [stIn, matL, matA, st00, matL_pure _ _ _ pu])
 simp (disch := omega) only [go_sem, Nat.reduceEqDiff, Nat.reduceBEq, ↓reduceIte, reduceCtorEq]
 refine callW_MX t1 (by kernel_rfl) (by simp [AV.pure, AV.pureL, strA_pure]) rfl (fun st => matA_P _ st) ?_
 rintro e1 h1 nx1 ⟨k1, k2, k3⟩
 simp only at k1 k2 k3
 have q0 : h1 0 = ⟨25, [m.av], true, false, true⟩ := by rw [k2 0 (by omega)]; rfl
 have q1 : h1 1 = ⟨28, [.agg [.nil, .nil, .nil]], true, false, true⟩ := by rw [k2 1 (by omega)]; rfl
 have q2 : h1 2 = ⟨28, [.agg [.nil, .nil, .nil]], true, false, true⟩ := by rw [k2 2 (by omega)]; rfl
 obtain ⟨o1, w1', v1⟩ := k3.one1
 have w1 := cells1 _ w1'
 simp (disch := omega) only [go_sem, Nat.reduceEqDiff, Nat.reduceBEq, ↓reduceIte, reduceCtorEq, q0, q1, q2, o1, w1, List.length_cons, List.length_nil, List.all_cons, List.all_nil]
 refine callW_MX t2 (by kernel_rfl) (by simp [AV.pure, AV.pureL, strA_pure]) rfl (fun st => matA_P _ st) ?_
 rintro e2 h2 nx2 ⟨l1, l2, l3⟩
 simp only at l1 l2 l3
 have r0 : h2 0 = ⟨25, [m.av], true, false, true⟩ := by rw [l2 0 (by omega)]; simp (disch := omega) only [upd_app, ↓reduceIte, if_neg, q0]
 have r1 : h2 1 = ⟨28, [.agg [.nil, .nil, .nil]], true, false, true⟩ := by rw [l2 1 (by omega)]; simp (disch := omega) only [upd_app, ↓reduceIte, if_neg, q1]
 have r2 : h2 2 = ⟨28, [.agg [e1, .nil, .nil]], true, false, true⟩ := by
  rw [l2 2 (by omega)]; simp (disch := omega) only [upd_app, ↓reduceIte, if_neg, if_pos]
  exact Eq.trans (congrArg (fun c => (⟨28, [.agg (setCells [.nil, .nil, .nil] 0 c)], true, false, true⟩ : Blk)) w1') rfl
 obtain ⟨o2, w2', v2⟩ := l3.one1
 have w2 := cells1 _ w2'
 have R1 : RowsN h2 b nx2 3 [rowOf m.arr, rowOf m.srv] [e1, e2] := RowsN.app (ps := [rowOf m.arr]) (es := [e1]) l1 k1 (k3.keep (Nat.le_refl _) (fun i hi hj => by rw [l2 i hj]; simp (disch := omega) only [upd_app, if_neg])) l3
 simp (disch := omega) only [go_sem, Nat.reduceEqDiff, Nat.reduceBEq, ↓reduceIte, reduceCtorEq, r0, r1, r2, o1, w1, o2, w2, List.length_cons, List.length_nil, List.all_cons, List.all_nil]
 refine callW_MX t3 (by kernel_rfl) (by simp [AV.pure, AV.pureL, rowsT_pure]) rfl (fun st => matA_SS st) ?_
 rintro e3 h3 nx3 ⟨m1, m2, m3⟩
 simp only at m1 m2 m3
 have s0 : h3 0 = ⟨25, [m.av], true, false, true⟩ := by rw [m2 0 (by omega)]; simp (disch := omega) only [upd_app, ↓reduceIte, if_neg, r0]
 have s1 : h3 1 = ⟨28, [.agg [.nil, .nil, .nil]], true, false, true⟩ := by rw [m2 1 (by omega)]; simp (disch := omega) only [upd_app, ↓reduceIte, if_neg, r1]
 have s2 : h3 2 = ⟨28, [.agg [e1, e2, .nil]], true, false, true⟩ := by
  rw [m2 2 (by omega)]; simp (disch := omega) only [upd_app, ↓reduceIte, if_neg, if_pos]
  exact Eq.trans (congrArg (fun c => (⟨28, [.agg (setCells [e1, .nil, .nil] 1 c)], true, false, true⟩ : Blk)) w2') rfl
 obtain ⟨o3, w3', v3⟩ := m3.one1
 have w3 := cells1 _ w3'
 have HN : NetN h3 b nx3 3 m (.agg [e1, e2, e3]) := ⟨e1, e2, e3, nx2, rfl, by omega, m1, R1.keep (Nat.le_refl _) (fun i hi hj => by rw [m2 i hj]; simp (disch := omega) only [upd_app, if_neg]), m3⟩
 clear w1 w2 w3 w1' w2' w3' o1 o2
 rcases m3.shape with rfl | ⟨a, b', c, rfl⟩
 all_goals
  simp (disch := omega) only [go_sem, Nat.reduceEqDiff, Nat.reduceBEq, ↓reduceIte, reduceCtorEq, s0, s1, s2, o3, v1, v2, Bool.and_self]
  rw [← hQ]
  exact post_net (id := 1) (hi := nx3) (lo := 3) (.inl rfl) rfl o_nI (by simp [upd_app] <;> omega) (by simp [upd_app]) (by simp [upd_app]) ld_nI (HN.keep (fun i h1 h2 => by simp (disch := omega) only [upd_app, if_neg]) (Nat.le_refl _))
def Ntw.lens (m : Ntw) : Prop := txsLen m.arr ∧ txsLen m.srv ∧ m.rts.length < 4611686018427387904 ∧ ∀ r ∈ m.rts, txsLen r
def szN (m : Ntw) (l : Int) : Int :=
 if szS m.arr l < 0 then -1 else if szS m.srv (szS m.arr l) < 0 then -1 else if szSS m.rts (szS m.srv (szS m.arr l)) < 0 then -1 else szSS m.rts (szS m.srv (szS m.arr l))
theorem szN_small {m : Ntw} (h : ¬ szN m 1000000 < 0) : m.small := by
  unfold szN at h
  split at h
  · omega
  · split at h
    · omega
    · split at h
      · omega
      · rename_i c1 c2 c3
        obtain ⟨a1, a2, a3⟩ := szS_bd (xs := m.arr) (l := 1000000) (by omega) (by omega)
        obtain ⟨b1, b2, b3⟩ := szS_bd (xs := m.srv) (show 0 ≤ szS m.arr 1000000 by omega) (by omega)
        obtain ⟨d1, d2, d3⟩ := szSS_bd (rs := m.rts) (show 0 ≤ szS m.srv (szS m.arr 1000000) by omega) (by omega)
        exact ⟨⟨by omega, fun x hx => by have := a2 x hx; omega⟩, ⟨by omega, fun x hx => by have := b2 x hx; omega⟩, by omega, fun r hr => ⟨by have := (d2 r hr).1; omega, fun x hx => by have := (d2 r hr).2 x hx; omega⟩⟩
theorem w_szNetwork (m : Ntw) (hl : m.lens) : CW Tryz.prog 4 [m.av, .int .i64 1000000] (.int .i64 (szN m 1000000)) := by
  obtain ⟨⟨a1, a2⟩, ⟨b1, b2⟩, c1, c2⟩ := hl
  have pu : AV.pureL [m.av, .int .i64 1000000] = true := by simp [AV.pure, AV.pureL, strA_pure, rowsT_pure]
  refine cw (by kernel_rfl) pu rfl ?_
  have z1 := cw (by kernel_rfl) (by simp [AV.pure, AV.pureL, strA_pure]) rfl (l_sz m.arr 1000000 (by omega) (by omega) a1 a2)
  unfold szN
  have y1 : 0 ≤ szS m.arr 1000000 → szS m.arr 1000000 ≤ 1000000 := fun h => (szS_bd (by omega) h).2.2
  generalize szS m.arr 1000000 = z at *
  by_cases h1 : z < 0
  · rw [if_pos h1]
    (refine callOk_of_wpc (W := fun _ => false) false hm' Tryz.func4 rfl (by kernel_rfl) (Nat.le_of_ble_eq_true rfl) (go_start ?_); generalize hQ : Post Tryz.prog Tryz.f4 _ _ _ _ _ = Q; simp only [stIn, matL, matA, st00, matL_pure _ _ _ pu])
    simp (disch := omega) only [go_sem, Nat.reduceEqDiff, Nat.reduceBEq, ↓reduceIte, reduceCtorEq, z1]
    (repeat (with_reducible refine Or.inr ?_))
    rw [← hQ]
    exact post_one (.inl rfl) rfl (by simp [upd_app] <;> omega) rfl
  rw [if_neg h1]
  have z2 := cw (by kernel_rfl) (by simp [AV.pure, AV.pureL, strA_pure]) rfl (l_sz m.srv z (by omega) (by omega) b1 b2)
  have y2 : 0 ≤ szS m.srv z → szS m.srv z ≤ z := fun h => (szS_bd (by omega) h).2.2
  generalize szS m.srv z = w at *
  by_cases h2 : w < 0
  · rw [if_pos h2]
    (refine callOk_of_wpc (W := fun _ => false) false hm' Tryz.func4 rfl (by kernel_rfl) (Nat.le_of_ble_eq_true rfl) (go_start ?_); generalize hQ : Post Tryz.prog Tryz.f4 _ _ _ _ _ = Q; simp only [stIn, matL, matA, st00, matL_pure _ _ _ pu])
    simp (disch := omega) only [go_sem, Nat.reduceEqDiff, Nat.reduceBEq, ↓reduceIte, reduceCtorEq, z1, z2]
    (repeat (with_reducible refine Or.inr ?_))
    rw [← hQ]
    exact post_one (.inl rfl) rfl (by simp [upd_app] <;> omega) rfl
  rw [if_neg h2]
  have z3 := cw (by kernel_rfl) (by simp [AV.pure, AV.pureL, rowsT_pure]) rfl (l_szSS m.rts w (by omega) (by omega) c1 c2)
  generalize szSS m.rts w = v at *
  by_cases h3 : v < 0
  · rw [if_pos h3]
    (refine callOk_of_wpc (W := fun _ => false) false hm' Tryz.func4 rfl (by kernel_rfl) (Nat.le_of_ble_eq_true rfl) (go_start ?_); generalize hQ : Post Tryz.prog Tryz.f4 _ _ _ _ _ = Q; simp only [stIn, matL, matA, st00, matL_pure _ _ _ pu])
    simp (disch := omega) only [go_sem, Nat.reduceEqDiff, Nat.reduceBEq, ↓reduceIte, reduceCtorEq, z1, z2, z3]
    (repeat (with_reducible refine Or.inr ?_))
    rw [← hQ]
    exact post_one (.inl rfl) rfl (by simp [upd_app] <;> omega) rfl
  · rw [if_neg h3]
    (refine callOk_of_wpc (W := fun _ => false) false hm' Tryz.func4 rfl (by kernel_rfl) (Nat.le_of_ble_eq_true rfl) (go_start ?_); generalize hQ : Post Tryz.prog Tryz.f4 _ _ _ _ _ = Q; simp only [stIn, matL, matA, st00, matL_pure _ _ _ pu])
    simp (disch := omega) only [go_sem, Nat.reduceEqDiff, Nat.reduceBEq, ↓reduceIte, reduceCtorEq, z1, z2, z3]
    (repeat (with_reducible refine Or.inr ?_))
    rw [← hQ]
    exact post_one (.inl rfl) rfl (by simp [upd_app] <;> omega) rfl
theorem NetN.out {h : Nat → Blk} {hi lo : Nat} {m : Ntw} {e : AV} (H : NetN h false hi lo m e) : ∃ i1 i2 o es lo1 hi1, e = .agg [.ref i1 (m.arr.length + roomB m.arr.length) 0 m.arr.length, .ref i2 (m.srv.length + roomB m.srv.length) 0 m.srv.length, .ref o (m.rts.length + roomB m.rts.length) 0 m.rts.length] ∧
  i1 < hi ∧ i2 < hi ∧ o < hi ∧ h i1 = rowBlk (rowOf m.arr) ∧ h i2 = rowBlk (rowOf m.srv) ∧ h o = ⟨22, es ++ List.replicate (roomB m.rts.length) spareRow, true, true, true⟩ ∧ RowsN h false hi1 lo1 (rowsP m.rts) es ∧ hi1 ≤ hi := by
 obtain ⟨e1, e2, e3, m1, rfl, k1, k2, k3, k4⟩ := H
 obtain ⟨i1, a1, a2, a3, a4⟩ := k3.at_ (i := 0) (p := rowOf m.arr) rfl nil_false
 obtain ⟨i2, b1, b2, b3, b4⟩ := k3.at_ (i := 1) (p := rowOf m.srv) rfl nil_false
 have hl : ∀ x : Txs, (rowOf x).2.length = roomB x.length := fun x => by simp [rowOf, spareL]
 simp only [List.getElem?_cons_zero, List.getElem?_cons_succ, Option.some.injEq, hl] at a3 b3
 unfold NestN at k4
 rw [if_neg (fun h => by cases h.1)] at k4
 obtain ⟨o, es, c1, c2, c3, c4, c5⟩ := k4
 rw [rowsP_len] at c3
 exact ⟨i1, i2, o, es, m1, o, by rw [a3, b3, c3]; rfl, by omega, by omega, c2, a4, b4, c4, c5, by omega⟩
set_option maxHeartbeats 1000000 in
theorem i_intactNetwork {fr : Nat → AV} {h : Nat → Blk} {nx hi1 lo1 hi2 lo2 : Nat} {m : Ntw} {e f : AV} (H1 : NetN h false hi1 lo1 m e) (H2 : NetN h false hi2 lo2 m f) (hs : m.small) (l1 : hi1 ≤ nx) (l2 : hi2 ≤ nx) :
  InOk Tryz.prog ⟨fr, h, nx⟩ 8 [e, f] (.bool true) ⟨fr, h, nx⟩ := by
 obtain ⟨⟨a1, a2⟩, ⟨b1, b2⟩, c1, c2⟩ := hs
 obtain ⟨i1, i2, o, es, lo1', hi1', rfl, p1, p2, p3, q1, q2, q3, q4, q5⟩ := H1.out
 obtain ⟨j1, j2, o', es', lo2', hi2', rfl, r1, r2, r3, s1, s2, s3, s4, s5⟩ := H2.out
 refine inOkS0 (W := ⟨fun _ => false, fun _ => none⟩) hm' Tryz.func8 rfl (by kernel_rfl) (Nat.le_of_ble_eq_true rfl) (go_start ?_)
 generalize hQ : PostS Tryz.prog Tryz.f8 _ _ _ _ = Q
 have hl : ∀ x : Txs, (rowOf x).2.length = roomB x.length := fun x => by simp [rowOf, spareL]
 simp (disch := omega) only [go_sem, Nat.reduceEqDiff, Nat.reduceBEq, ↓reduceIte, reduceCtorEq]
 generalize hH : upd (upd h nx _) (nx + 1) _ = H
 have hk : ∀ i, i < nx → H i = h i := fun i hi => by rw [← hH]; simp (disch := omega) only [upd_app, if_neg]
 have d0 : H nx = ⟨28, [.agg [.ref i1 (m.arr.length + roomB m.arr.length) 0 m.arr.length, .ref i2 (m.srv.length + roomB m.srv.length) 0 m.srv.length, .ref o (m.rts.length + roomB m.rts.length) 0 m.rts.length]], true, false, true⟩ := by rw [← hH]; simp (disch := omega) only [upd_app, ↓reduceIte, if_neg, if_pos]; rfl
 have d1 : H (nx + 1) = ⟨28, [.agg [.ref j1 (m.arr.length + roomB m.arr.length) 0 m.arr.length, .ref j2 (m.srv.length + roomB m.srv.length) 0 m.srv.length, .ref o' (m.rts.length + roomB m.rts.length) 0 m.rts.length]], true, false, true⟩ := by rw [← hH]; simp (disch := omega) only [upd_app, ↓reduceIte, if_neg, if_pos]; rfl
 refine callW_I (i_intact (i := i1) (j := j1) (xs := m.arr) (sp := spareL m.arr.length) (by rw [hk _ (by omega)]; exact q1) (by rw [hk _ (by omega)]; exact s1) rfl rfl (by simp [spareL]) a1) (by kernel_rfl) (.inr ⟨rfl, rfl⟩) ?_
 simp (disch := omega) only [go_sem, Nat.reduceEqDiff, Nat.reduceBEq, ↓reduceIte, reduceCtorEq, d0, d1]
 refine callW_I (i_intact (i := i2) (j := j2) (xs := m.srv) (sp := spareL m.srv.length) (by rw [hk _ (by omega)]; exact q2) (by rw [hk _ (by omega)]; exact s2) rfl rfl (by simp [spareL]) b1) (by kernel_rfl) (.inr ⟨rfl, rfl⟩) ?_
 simp (disch := omega) only [go_sem, Nat.reduceEqDiff, Nat.reduceBEq, ↓reduceIte, reduceCtorEq, d0, d1]
 refine callW_I (i_intactSS (o1 := o) (o2 := o') (rs := m.rts) (by rw [hk _ (by omega)]; exact q3) (by rw [hk _ (by omega)]; exact s3) (q4.keep (Nat.le_refl _) (fun i _ hi => hk i (by omega))) (s4.keep (Nat.le_refl _) (fun i _ hi => hk i (by omega))) rfl rfl c1 (fun r hr => (c2 r hr).1)) (by kernel_rfl) (.inr ⟨rfl, rfl⟩) ?_
 simp (disch := omega) only [go_sem, Nat.reduceEqDiff, Nat.reduceBEq, ↓reduceIte, reduceCtorEq]
 rw [← hQ]
 exact postS_one (.inl rfl) rfl (by simp [upd_app] <;> omega) rfl (fun i hi _ => by simp only; exact hk i hi)
attribute [go_sem] w_szNetwork
theorem postS_cell {P : Program} {fn : Func} {t u : Tmp} {T id : Nat} {x y r : AV} {ids : List Nat} {b : Bool} {st : St} {e : Ex} {h' : Nat → Blk} {nx : Nat} {eat : List Nat} (he : e = .ret ∨ e = .normal) (hr : fn.results.toList = [.cell t T, .tmp u]) (hok : okT P T = true) (hv : st.fr t = .ptr id 1 0 0) (hw : st.fr u = .bool b)
    (hlv : (st.h id).lv = true) (hx : (st.h id).xs = [x]) (hl : ldA P T x 0 = some y) (hs : snapA st 7 y = some (r, ids)) (hids : ∀ i ∈ ids, nx ≤ i) (hh : ∀ i, i < nx → i ∉ eat → st.h i = h' i) :
    PostS P fn (.tup [r, .bool b]) h' nx eat e st := by
  refine ⟨by rcases he with rfl | rfl <;> trivial, ⟨.tup [y, .bool b], ids, by rw [hr]; simp [resV, resL, resA, hv, hw, hok, loadA, hlv, hx, hl], ?_, by simpa using hids⟩, hh⟩
  have h2 : snapA st 7 (.bool b) = some (.bool b, []) := snapA_pure rfl
  have : snapA st (7 + 1) (.tup [y, .bool b]) = some (.tup [r, .bool b], ids) := by
    by_cases hy : y.pure = true
    · have := snapA_pure (st := st) (n := 7) hy
      rw [hs] at this
      simp only [Option.some.injEq, Prod.mk.injEq] at this
      obtain ⟨rfl, rfl⟩ := this
      exact snapA_pure (by simp [AV.pure, AV.pureL, hy])
    · rw [snapA]
      simp [AV.pure, AV.pureL, snapL, hs, h2, hy]
  exact this
theorem snap3 {st : St} {a b : AV} {o n T : Nat} {xs : List AV} {e g : Bool} (ha : a.pure = true) (hb : b.pure = true) (ho : st.h o = ⟨T, xs, e, g, true⟩) (hn : xs.length = n) (hp : AV.pureL xs = true) : snapA st 7 (.agg [a, b, .ref o n 0 n]) = some (.agg [a, b, .sl T xs [] false], [o]) := by
 have h1 : snapA st 6 (.ref o n 0 n) = some (.sl T xs [] false, [o]) := snap_frozen (d := 5) (by rw [ho]) (by rw [ho]; exact hn) (by rw [ho]) (by omega) (by rw [ho, List.drop_zero]; exact List.take_of_length_le (by simp only; omega)) hp
 have h2 : snapA st 6 a = some (a, []) := snapA_pure ha
 have h3 : snapA st 6 b = some (b, []) := snapA_pure hb
 rw [snapA]
 simp [AV.pure, AV.pureL, snapL, h1, h2, h3]
set_option maxRecDepth 10000 in
set_option maxHeartbeats 8000000 in
theorem i_l07Parse {fr : Nat → AV} {h : Nat → Blk} {nx id : Nat} {m : Ntw} (hm0 : m.small) (hb : h id = ⟨28, [m.av], true, false, true⟩) (hid : id < nx) :
    InOk Tryz.prog ⟨fr, h, nx⟩ 11 [.ptr id 1 0 0] (netS m) ⟨fr, h, nx⟩ := by
  refine inOkS0 (W := ⟨fun _ => false, fun q => if q = 18 then some [(0, 0), (1, 2)] else none⟩) hm' Tryz.func11 rfl (by kernel_rfl) (Nat.le_of_ble_eq_true rfl) (go_start ?_)
  generalize hQ : PostS Tryz.prog Tryz.f11 _ _ _ _ = Q
  obtain ⟨⟨a1, a2⟩, ⟨b1, b2⟩, c1, c2⟩ := hm0
  have n1 : (id = nx) = False := by simp; omega
  have n2 : (id = nx + 1) = False := by simp; omega
  have n3 : (nx = nx + 1) = False := by simp
  have n4 : (nx + 1 = nx) = False := by simp
  have wA := w_sList (xs := m.arr) (by omega) a2
  have wS := w_sList (xs := m.srv) (by omega) b2
  obtain ⟨k, hk⟩ : ∃ k, m.srv.length = k := ⟨_, rfl⟩
  obtain ⟨ka, hka⟩ : ∃ k, m.arr.length = k := ⟨_, rfl⟩
  obtain ⟨kr, hkr⟩ : ∃ k, m.rts.length = k := ⟨_, rfl⟩
  rw [netS] at hQ
  by_cases hnet : netOk m
  · have hnet' := hnet
    unfold netOk at hnet'
    rw [hk, hka, hkr] at hnet'
    obtain ⟨k1, k6, rfl, rfl⟩ := hnet'
    rw [netQ, if_pos hnet] at hQ
    have hlsr : m.srv.mapM parseR = listR m.srv := by unfold listR; rw [if_neg (by omega)]
    have n5 : (nx + 1 = id) = False := by simp; omega
    rw [pos_mapM, hlsr] at hQ
    cases hla : listR m.arr with
    | none =>
      rw [hla, optLS] at wA
      rw [hla] at hQ
      cases hls : listR m.srv with
      | none =>
        rw [hls, optLS] at wS
        simp (disch := omega) only [go_sem, Nat.reduceEqDiff, Nat.reduceBEq, ↓reduceIte, reduceCtorEq, ↓k_appE, hb, n1, n2, n3, n4, n5, strA_length, hk, hka, hkr, rowsT_len, wA, wS]
        (repeat (with_reducible refine Or.inr ?_))
        rw [← hQ]
        exact postS_cell (id := nx) (x := .agg [.nil, .nil, .nil]) (ids := []) (.inl rfl) rfl o_nS (by simp [upd_app] <;> omega) (by simp [upd_app] <;> omega) (by simp [upd_app]) (by simp [upd_app]) ld_nS (snapA_pure rfl) (by simp) (fun i hi _ => by simp (disch := omega) only [upd_app, if_neg])
      | some s =>
        rw [hls, optLS] at wS
        simp (disch := omega) only [go_sem, Nat.reduceEqDiff, Nat.reduceBEq, ↓reduceIte, reduceCtorEq, ↓k_appE, hb, n1, n2, n3, n4, n5, strA_length, hk, hka, hkr, rowsT_len, wA, wS]
        (repeat (with_reducible refine Or.inr ?_))
        rw [← hQ]
        exact postS_cell (id := nx) (x := .agg [.nil, .nil, .nil]) (ids := []) (.inl rfl) rfl o_nS (by simp [upd_app] <;> omega) (by simp [upd_app] <;> omega) (by simp [upd_app]) (by simp [upd_app]) ld_nS (snapA_pure rfl) (by simp) (fun i hi _ => by simp (disch := omega) only [upd_app, if_neg])
    | some a =>
      rw [hla, optLS] at wA
      rw [hla] at hQ
      have hal : a.length = kr := by
        have := hla; unfold listR at this; rw [if_neg (by omega)] at this; rw [mapMo_len this, hka]
      have wP := w_sPositive (qs := a) (by omega)
      cases hls : listR m.srv with
      | none =>
        rw [hls, optLS] at wS
        rw [hls] at hQ
        simp (disch := omega) only [go_sem, Nat.reduceEqDiff, Nat.reduceBEq, ↓reduceIte, reduceCtorEq, ↓k_appE, hb, n1, n2, n3, n4, n5, strA_length, hk, hka, hkr, rowsT_len, wA, wS]
        (repeat (with_reducible refine Or.inr ?_))
        rw [← hQ]
        exact postS_cell (id := nx) (x := .agg [.nil, .nil, .nil]) (ids := []) (.inl rfl) rfl o_nS (by simp [upd_app] <;> omega) (by simp [upd_app] <;> omega) (by simp [upd_app]) (by simp [upd_app]) ld_nS (snapA_pure rfl) (by simp) (fun i hi _ => by simp (disch := omega) only [upd_app, if_neg])
      | some s =>
        rw [hls, optLS] at wS
        rw [hls] at hQ
        have hsl : s.length = kr := by
          have := hls; unfold listR at this; rw [if_neg (by omega)] at this; rw [mapMo_len this, hk]
        have wB := w_l07Above (qs := s) (by omega)
        by_cases hps : posAll s = true
        · rw [hps] at wB
          simp only [if_pos hps] at hQ
          by_cases hna : nonneg a = true
          · have hna' : (a.all fun q => !decide (q < 0)) = true := hna
            rw [hna'] at wP
            simp only [if_pos hna] at hQ
            rw [hk] at hQ
            simp (disch := omega) only [go_sem, Nat.reduceEqDiff, Nat.reduceBEq, ↓reduceIte, reduceCtorEq, ↓k_appE, hb, n1, n2, n3, n4, n5, strA_length, hk, hka, hkr, rowsT_len, wA, wS, wP, wB]
            (repeat (with_reducible refine Or.inr ?_))
            refine k_loop (fun (⟨i, o, qs⟩ : Nat × Nat × List (List Rat)) st => st.fr 0 = .ptr id 1 0 0 ∧ st.fr 2 = .ptr nx 1 0 0 ∧ st.fr 4 = .int .i64 kr ∧ st.fr 5 = .ptr (nx + 1) 1 0 0 ∧ st.fr 83 = .int .i64 kr ∧ st.fr 84 = .int .i64 i ∧ st.h nx = ⟨37, [.agg [.nil, .nil, .nil]], true, false, true⟩ ∧
                st.h (nx + 1) = ⟨37, [.agg [lS 700 a, lS 700 s, if i = 0 then .nil else .ref o i 0 i]], true, false, true⟩ ∧ (0 < i → st.h o = ⟨34, rwS qs, false, true, true⟩ ∧ nx + 2 ≤ o ∧ o < st.nx) ∧ (∀ j, j < nx → st.h j = h j) ∧ nx + 2 ≤ st.nx ∧ i ≤ kr ∧ qs.length = i ∧ (m.rts.take i).mapM (rowQ kr) = some qs) (fun (⟨i, _, _⟩ : Nat × Nat × List (List Rat)) => kr - i) (0, 0, [])
              ⟨(by simp [upd_app] <;> omega), (by simp [upd_app] <;> omega), (by simp [upd_app] <;> omega), (by simp [upd_app] <;> omega), (by simp [upd_app] <;> omega), (by simp [upd_app] <;> omega), by simp (disch := omega) only [upd_app, ↓reduceIte, if_neg, if_pos], by simp (disch := omega) only [upd_app, ↓reduceIte, if_neg, if_pos], by omega, fun j hj => by simp (disch := omega) only [upd_app, if_neg], by simp only; omega, by omega, rfl, by simp⟩ ?_
            rintro ⟨i, o, qs⟩ ⟨fr1, h2, nx1⟩ ⟨g0, g2, g4, g5, g83, g84, hm0, hm1, hm2, hold, hnx, hi, hql, hqm⟩ J hJ
            simp only at g0 g2 g4 g5 g83 g84 hm0 hm1 hm2 hold hnx hi hql hqm
            have hb2 : h2 id = ⟨28, [m.av], true, false, true⟩ := by rw [hold id hid]; exact hb
            by_cases hin : i < kr
            · obtain ⟨xs, hx⟩ := get_some (xs := m.rts) (i := i) (by omega)
              have rtx := rowsT_at hx
              have hrl : (rowsT m.rts).length = kr := by rw [rowsT_len, hkr]
              obtain ⟨x1, x2⟩ := c2 xs (List.mem_of_getElem? hx)
              have wR := w_sList (xs := xs) (by omega) x2
              have m1 : (nx = nx1) = False := by simp; omega
              have m2 : (nx + 1 = nx1) = False := by simp; omega
              have hbadrow : rowQ kr xs = none → PostS Tryz.prog Tryz.f11 (.tup [.agg [.nil, .nil, .nil], .bool false]) h nx [] = Q := fun hn => by rw [← hQ, mapM_fail hx hn]
              cases hlr : listR xs with
              | none =>
                rw [hlr, optLS] at wR
                have hQ := hbadrow (by unfold rowQ; rw [hlr])
                simp (disch := omega) only [go_sem, Nat.reduceEqDiff, Nat.reduceBEq, ↓reduceIte, reduceCtorEq, ↓k_appE, g0, g2, g4, g5, g83, g84, hb2, hm0, hm1, n1, n2, n3, n4, n5, m1, m2, hrl, rtx, rowsT_len, wR]
                (repeat (with_reducible refine Or.inr ?_))
                rw [← hQ]
                exact postS_cell (id := nx) (x := .agg [.nil, .nil, .nil]) (ids := []) (.inl rfl) rfl o_nS (by simp [upd_app] <;> omega) (by simp [upd_app] <;> omega) (by simp (disch := omega) only [upd_app, ↓reduceIte, if_neg, if_pos, hm0]) (by simp (disch := omega) only [upd_app, ↓reduceIte, if_neg, if_pos, hm0]) ld_nS (snapA_pure rfl) (by simp) (fun i hi _ => by simp (disch := omega) only [upd_app, if_neg, hold i hi])
              | some q =>
                rw [hlr, optLS] at wR
                by_cases hqn : q.length = kr
                · have wN := w_sPositive (qs := q) (by omega)
                  cases hnn : (q.all fun q => !decide (q < 0)) with
                  | false =>
                    rw [hnn] at wN
                    have hQ := hbadrow (by unfold rowQ; rw [hlr]; simp only; rw [if_neg (fun h => by have := h.2.1; unfold nonneg at this; rw [hnn] at this; cases this)])
                    simp (disch := omega) only [go_sem, Nat.reduceEqDiff, Nat.reduceBEq, ↓reduceIte, reduceCtorEq, ↓k_appE, g0, g2, g4, g5, g83, g84, hb2, hm0, hm1, n1, n2, n3, n4, n5, m1, m2, hrl, rtx, rowsT_len, wR, wN, hqn]
                    (repeat (with_reducible refine Or.inr ?_))
                    rw [← hQ]
                    exact postS_cell (id := nx) (x := .agg [.nil, .nil, .nil]) (ids := []) (.inl rfl) rfl o_nS (by simp [upd_app] <;> omega) (by simp [upd_app] <;> omega) (by simp (disch := omega) only [upd_app, ↓reduceIte, if_neg, if_pos, hm0]) (by simp (disch := omega) only [upd_app, ↓reduceIte, if_neg, if_pos, hm0]) ld_nS (snapA_pure rfl) (by simp) (fun i hi _ => by simp (disch := omega) only [upd_app, if_neg, hold i hi])
                  | true =>
                    rw [hnn] at wN
                    have wT := w_sTotal (m := 700) (qs := q) (by omega) (by omega)
                    rw [hqn] at wT
                    have wL := w_sLess (m := 64) (n := 64 + kr * (700 + 1)) (a := 1) (b := sumL q) (by omega)
                    by_cases hsum : 1 < sumL q
                    · rw [decide_eq_true hsum] at wL
                      have hQ := hbadrow (by unfold rowQ; rw [hlr]; simp only; rw [if_neg (fun h => h.2.2 hsum)])
                      simp (disch := omega) only [go_sem, Nat.reduceEqDiff, Nat.reduceBEq, ↓reduceIte, reduceCtorEq, ↓k_appE, g0, g2, g4, g5, g83, g84, hb2, hm0, hm1, n1, n2, n3, n4, n5, m1, m2, hrl, rtx, rowsT_len, wR, wN, hqn, wT, wL]
                      (repeat (with_reducible refine Or.inr ?_))
                      rw [← hQ]
                      exact postS_cell (id := nx) (x := .agg [.nil, .nil, .nil]) (ids := []) (.inl rfl) rfl o_nS (by simp [upd_app] <;> omega) (by simp [upd_app] <;> omega) (by simp (disch := omega) only [upd_app, ↓reduceIte, if_neg, if_pos, hm0]) (by simp (disch := omega) only [upd_app, ↓reduceIte, if_neg, if_pos, hm0]) ld_nS (snapA_pure rfl) (by simp) (fun i hi _ => by simp (disch := omega) only [upd_app, if_neg, hold i hi])
                    · rw [decide_eq_false hsum] at wL
                      have hrq : rowQ kr xs = some q := by unfold rowQ; rw [hlr]; simp only; rw [if_pos ⟨hqn, hnn, hsum⟩]
                      have hqm2 := mapM_take hqm hx hrq
                      have hsn : rwS qs ++ [.sl 57 (ratM 700 q) [] false] = rwS (qs ++ [q]) := rwS_snoc
                      have keyJ := fun o' => hJ (i + 1, o', qs ++ [q])
                      clear hJ
                      by_cases hi0 : i = 0
                      · subst hi0
                        simp only [if_true] at hm1
                        obtain rfl : qs = [] := List.length_eq_zero_iff.1 hql
                        have hsn0 : ([.sl 57 (ratM 700 q) [] false] : List AV) = rwS ([] ++ [q]) := rfl
                        simp (disch := omega) only [go_sem, Nat.reduceEqDiff, Nat.reduceBEq, ↓reduceIte, reduceCtorEq, ↓k_appE, g0, g2, g4, g5, g83, g84, hb2, hm0, hm1, n1, n2, n3, n4, n5, m1, m2, hrl, rtx, rowsT_len, wR, wN, wT, wL, hqn, reach, List.length_cons, List.length_nil]
                        (repeat (with_reducible refine Or.inr ?_))
                        exact keyJ nx1 _ ⟨(by simp [upd_app, g0] <;> omega), (by simp [upd_app, g2] <;> omega), (by simp [upd_app, g4] <;> omega), (by simp [upd_app, g5] <;> omega), (by simp [upd_app, g83] <;> omega), (by simp [upd_app] <;> omega), by simp (disch := omega) only [upd_app, ↓reduceIte, if_neg, if_pos, hm0], by simp (disch := omega) only [upd_app, ↓reduceIte, if_neg, if_pos], fun _ => ⟨by simp (disch := omega) only [upd_app, ↓reduceIte, if_neg, if_pos]; rw [hsn0], by omega, by simp only; omega⟩, fun j hj => by simp (disch := omega) only [upd_app, if_neg, hold j hj], by simp only; omega, by omega, by simp, hqm2⟩ (by simp only; omega)
                      · obtain ⟨ho, ho1, ho2⟩ := hm2 (by omega)
                        simp only [hi0, if_false] at hm1
                        have p1 : (o = nx + 1) = False := by simp; omega
                        have p2 : (nx + 1 = o) = False := by simp; omega
                        have hol : (rwS qs).length = i := by rw [rwS_len, hql]
                        simp (disch := omega) only [go_sem, Nat.reduceEqDiff, Nat.reduceBEq, ↓reduceIte, reduceCtorEq, ↓k_appE, g0, g2, g4, g5, g83, g84, hb2, hm0, hm1, n1, n2, n3, n4, n5, m1, m2, hrl, rtx, rowsT_len, wR, wN, wT, wL, hqn, reach, List.length_cons, List.length_nil, ho, hol, hsn, p1, p2]
                        (repeat (with_reducible refine Or.inr ?_))
                        exact keyJ o _ ⟨(by simp [upd_app, g0] <;> omega), (by simp [upd_app, g2] <;> omega), (by simp [upd_app, g4] <;> omega), (by simp [upd_app, g5] <;> omega), (by simp [upd_app, g83] <;> omega), (by simp [upd_app] <;> omega), by simp (disch := omega) only [upd_app, ↓reduceIte, if_neg, if_pos, hm0], by simp (disch := omega) only [upd_app, ↓reduceIte, if_neg, if_pos], fun _ => ⟨by simp (disch := omega) only [upd_app, ↓reduceIte, if_neg, if_pos], by omega, by simp only; omega⟩, fun j hj => by simp (disch := omega) only [upd_app, if_neg, hold j hj], by simp only; omega, by omega, by simp; omega, hqm2⟩ (by simp only; omega)
                · have hQ := hbadrow (by unfold rowQ; rw [hlr]; simp only; rw [if_neg (fun h => hqn h.1)])
                  simp (disch := omega) only [go_sem, Nat.reduceEqDiff, Nat.reduceBEq, ↓reduceIte, reduceCtorEq, ↓k_appE, g0, g2, g4, g5, g83, g84, hb2, hm0, hm1, n1, n2, n3, n4, n5, m1, m2, hrl, rtx, rowsT_len, wR, hqn]
                  (repeat (with_reducible refine Or.inr ?_))
                  rw [← hQ]
                  exact postS_cell (id := nx) (x := .agg [.nil, .nil, .nil]) (ids := []) (.inl rfl) rfl o_nS (by simp [upd_app] <;> omega) (by simp [upd_app] <;> omega) (by simp (disch := omega) only [upd_app, ↓reduceIte, if_neg, if_pos, hm0]) (by simp (disch := omega) only [upd_app, ↓reduceIte, if_neg, if_pos, hm0]) ld_nS (snapA_pure rfl) (by simp) (fun i hi _ => by simp (disch := omega) only [upd_app, if_neg, hold i hi])
            · obtain rfl : i = kr := by omega
              obtain ⟨ho, ho1, ho2⟩ := hm2 (by omega)
              rw [if_neg (by omega)] at hm1
              rw [List.take_of_length_le (by omega)] at hqm
              rw [hqm] at hQ
              simp only at hQ
              have hrn : ∀ (j : Nat) (r : List Rat), qs[j]? = some r → r.length = i := fun j r hj => mapMo_all (P := fun r => r.length = i) (fun x y h => (rowQ_some h).2.1) hqm r (List.mem_of_getElem? hj)
              have hE := fun (fr : Nat → AV) (h : Nat → Blk) (nx' : Nat) (h1 : h (nx + 1) = _) (h2 : h o = _) (h3 : nx + 1 < nx') (h4 : o < nx') => i_l07Ends (fr := fr) (h := h) (nx := nx') (id := nx + 1) (o := o) (n := i) (av := lS 700 a) (srv := s) (rs := qs) (e := false) h1 h3 h2 h4 hql hsl hrn (by omega)
              simp (disch := omega) only [go_sem, Nat.reduceEqDiff, Nat.reduceBEq, ↓reduceIte, reduceCtorEq, ↓k_appE, g0, g2, g4, g5, g83, g84, hm0, hm1, n1, n2, n3, n4, n5]
              refine callW_I (hE _ _ _ hm1 ho (by omega) (by omega)) (by kernel_rfl) (.inr ⟨rfl, rfl⟩) ?_
              simp (disch := omega) only [go_sem, Nat.reduceEqDiff, Nat.reduceBEq, ↓reduceIte, reduceCtorEq, ↓k_appE, g0, g2, g4, g5, g83, g84, hm0, hm1, n1, n2, n3, n4, n5]
              refine ⟨hE _ _ _ (by simp (disch := omega) only [upd_app, if_neg, hm1]) (by simp (disch := omega) only [upd_app, if_neg, ho]) (by omega) (by omega), ?_⟩
              rw [← hQ]
              exact postS_cell (id := nx) (x := .agg [lS 700 a, lS 700 s, .ref o i 0 i]) (ids := [o]) (.inl rfl) rfl o_nS (by simp [upd_app] <;> omega) (by simp [upd_app] <;> omega) (by simp [upd_app]) (by simp [upd_app]) ld_nS (snap3 (e := false) (g := true) (by simp [AV.pure, AV.pureL]) (by simp [AV.pure, AV.pureL]) (by simp (disch := omega) only [upd_app, if_neg, ho]) (by rw [rwS_len, hql]) rwS_pure) (by simp; omega) (fun j hj _ => by simp (disch := omega) only [upd_app, if_neg, hold j hj])
          · have hna' : (a.all fun q => !decide (q < 0)) = false := by simpa [nonneg] using hna
            rw [hna'] at wP
            simp only [if_neg hna] at hQ
            simp (disch := omega) only [go_sem, Nat.reduceEqDiff, Nat.reduceBEq, ↓reduceIte, reduceCtorEq, ↓k_appE, hb, n1, n2, n3, n4, n5, strA_length, hk, hka, hkr, rowsT_len, wA, wS, wP]
            (repeat (with_reducible refine Or.inr ?_))
            rw [← hQ]
            exact postS_cell (id := nx) (x := .agg [.nil, .nil, .nil]) (ids := []) (.inl rfl) rfl o_nS (by simp [upd_app] <;> omega) (by simp [upd_app] <;> omega) (by simp [upd_app]) (by simp [upd_app]) ld_nS (snapA_pure rfl) (by simp) (fun i hi _ => by simp (disch := omega) only [upd_app, if_neg])
        · have hps' : posAll s = false := by simpa using hps
          rw [hps'] at wB
          simp only [if_neg hps] at hQ
          cases hna' : (a.all fun q => !decide (q < 0)) with
          | true =>
            rw [hna'] at wP
            simp (disch := omega) only [go_sem, Nat.reduceEqDiff, Nat.reduceBEq, ↓reduceIte, reduceCtorEq, ↓k_appE, hb, n1, n2, n3, n4, n5, strA_length, hk, hka, hkr, rowsT_len, wA, wS, wP, wB]
            (repeat (with_reducible refine Or.inr ?_))
            rw [← hQ]
            exact postS_cell (id := nx) (x := .agg [.nil, .nil, .nil]) (ids := []) (.inl rfl) rfl o_nS (by simp [upd_app] <;> omega) (by simp [upd_app] <;> omega) (by simp [upd_app]) (by simp [upd_app]) ld_nS (snapA_pure rfl) (by simp) (fun i hi _ => by simp (disch := omega) only [upd_app, if_neg])
          | false =>
            rw [hna'] at wP
            simp (disch := omega) only [go_sem, Nat.reduceEqDiff, Nat.reduceBEq, ↓reduceIte, reduceCtorEq, ↓k_appE, hb, n1, n2, n3, n4, n5, strA_length, hk, hka, hkr, rowsT_len, wA, wS, wP]
            (repeat (with_reducible refine Or.inr ?_))
            rw [← hQ]
            exact postS_cell (id := nx) (x := .agg [.nil, .nil, .nil]) (ids := []) (.inl rfl) rfl o_nS (by simp [upd_app] <;> omega) (by simp [upd_app] <;> omega) (by simp [upd_app]) (by simp [upd_app]) ld_nS (snapA_pure rfl) (by simp) (fun i hi _ => by simp (disch := omega) only [upd_app, if_neg])
  · rw [netQ, if_neg hnet] at hQ
    unfold netOk at hnet
    rw [hk, hka, hkr] at hnet
    by_cases q1 : k < 1
    · simp (disch := omega) only [go_sem, Nat.reduceEqDiff, Nat.reduceBEq, ↓reduceIte, reduceCtorEq, ↓k_appE, hb, n1, n3, n4, strA_length, hk, hka, hkr, rowsT_len]
      rw [← hQ]
      exact postS_cell (id := nx) (x := .agg [.nil, .nil, .nil]) (ids := []) (.inl rfl) rfl o_nS (by simp [upd_app] <;> omega) (by simp [upd_app] <;> omega) (by simp [upd_app]) (by simp [upd_app]) ld_nS (snapA_pure rfl) (by simp) (fun i hi _ => by simp (disch := omega) only [upd_app, if_neg])
    by_cases q2 : 6 < k
    · simp (disch := omega) only [go_sem, Nat.reduceEqDiff, Nat.reduceBEq, ↓reduceIte, reduceCtorEq, ↓k_appE, hb, n1, n3, n4, strA_length, hk, hka, hkr, rowsT_len]
      rw [← hQ]
      exact postS_cell (id := nx) (x := .agg [.nil, .nil, .nil]) (ids := []) (.inl rfl) rfl o_nS (by simp [upd_app] <;> omega) (by simp [upd_app] <;> omega) (by simp [upd_app]) (by simp [upd_app]) ld_nS (snapA_pure rfl) (by simp) (fun i hi _ => by simp (disch := omega) only [upd_app, if_neg])
    by_cases q3 : ka = k
    · simp (disch := omega) only [go_sem, Nat.reduceEqDiff, Nat.reduceBEq, ↓reduceIte, reduceCtorEq, ↓k_appE, hb, n1, n3, n4, strA_length, hk, hka, hkr, rowsT_len]
      rw [← hQ]
      exact postS_cell (id := nx) (x := .agg [.nil, .nil, .nil]) (ids := []) (.inl rfl) rfl o_nS (by simp [upd_app] <;> omega) (by simp [upd_app] <;> omega) (by simp [upd_app]) (by simp [upd_app]) ld_nS (snapA_pure rfl) (by simp) (fun i hi _ => by simp (disch := omega) only [upd_app, if_neg])
    · simp (disch := omega) only [go_sem, Nat.reduceEqDiff, Nat.reduceBEq, ↓reduceIte, reduceCtorEq, ↓k_appE, hb, n1, n3, n4, strA_length, hk, hka, hkr, rowsT_len]
      rw [← hQ]
      exact postS_cell (id := nx) (x := .agg [.nil, .nil, .nil]) (ids := []) (.inl rfl) rfl o_nS (by simp [upd_app] <;> omega) (by simp [upd_app] <;> omega) (by simp [upd_app]) (by simp [upd_app]) ld_nS (snapA_pure rfl) (by simp) (fun i hi _ => by simp (disch := omega) only [upd_app, if_neg])
theorem w_indexNeg {qs : List Rat} (hl : qs.length ≤ 1000) : CW Tryz.prog 50 [lI 700 qs, .fn (.func 28) [] []] (.int .i64 (negI qs 0)) := by
  refine cw (by kernel_rfl) (by simp [AV.pure, AV.pureL]) (by simp [AV.pure, AV.pureL]) ?_
  obtain ⟨L, hL⟩ : ∃ n, qs.length = n := ⟨_, rfl⟩
  rw [hL] at hl
  (refine callOk_of_wpc (W := fun _ => false) false hm' Tryz.func50 rfl (by kernel_rfl) (Nat.le_of_ble_eq_true rfl) (go_start ?_); generalize hQ : Post Tryz.prog Tryz.f50 _ _ _ _ _ = Q; simp only [stIn, matL, matA, st00])
  simp (disch := omega) only [go_sem, Nat.reduceEqDiff, Nat.reduceBEq, ↓reduceIte, reduceCtorEq, hL]
  refine k_loop (fun (i : Nat) st => st.fr 0 = lI 700 qs ∧ st.fr 1 = .fn (.func 28) [] [] ∧ st.fr 7 = .int .i64 L ∧ st.fr 8 = .int .i64 i ∧ i ≤ L ∧ negI (qs.drop i) i = negI qs 0) (fun i => L - i) 0 ⟨(by simp [upd_app] <;> omega), (by simp [upd_app] <;> omega), (by simp [upd_app] <;> omega), (by simp [upd_app] <;> omega), by omega, rfl⟩ ?_
  rintro i ⟨fr, h, nx⟩ ⟨g0, g1, g7, g8, hi, ha⟩ J hJ
  simp only at g0 g1 g7 g8
  by_cases hin : i < L
  · obtain ⟨q, hq⟩ := get_some (xs := qs) (i := i) (by omega)
    have hat := negI_at hq
    have hm := w_isMinus (m := 700) (a := q) (by omega)
    simp only [rI] at hm
    simp (disch := omega) only [go_sem, Nat.reduceEqDiff, Nat.reduceBEq, ↓reduceIte, reduceCtorEq, g0, g1, g7, g8, hq]
    rw [x_callT (g := 28) (by simp [upd_app]) rfl]
    by_cases hneg : q < 0
    · rw [if_pos hneg] at hat
      rw [decide_eq_true hneg] at hm
      rw [← ha, hat] at hQ
      simp (disch := omega) only [go_sem, Nat.reduceEqDiff, Nat.reduceBEq, ↓reduceIte, reduceCtorEq, g0, g1, g7, g8, hm]
      (repeat (with_reducible refine Or.inr ?_))
      rw [← hQ]
      exact post_one (.inl rfl) rfl (by simp [upd_app] <;> omega) rfl
    · rw [if_neg hneg] at hat
      rw [decide_eq_false hneg] at hm
      simp (disch := omega) only [go_sem, Nat.reduceEqDiff, Nat.reduceBEq, ↓reduceIte, reduceCtorEq, g0, g1, g7, g8, hm]
      (repeat (with_reducible refine Or.inr ?_))
      exact hJ (i + 1) _ ⟨(by simp [upd_app, g0] <;> omega), (by simp [upd_app, g1] <;> omega), (by simp [upd_app, g7] <;> omega), (by simp [upd_app] <;> omega), hin, by rw [← hat, ha]⟩ (by omega)
  · obtain rfl : i = L := by omega
    rw [List.drop_eq_nil_of_le (by omega), negI] at ha
    rw [← ha] at hQ
    simp (disch := omega) only [go_sem, Nat.reduceEqDiff, Nat.reduceBEq, ↓reduceIte, reduceCtorEq, g0, g1, g7, g8]
    rw [← hQ]
    exact post_one (.inl rfl) rfl (by simp [upd_app] <;> omega) rfl
attribute [go_sem] w_indexNeg
theorem w_hasNeg {qs : List Rat} (hl : qs.length ≤ 1000) : CW Tryz.prog 27 [lI 700 qs, .fn (.func 28) [] []] (.bool (!(qs.all fun q => !decide (q < 0)))) := by
 refine cw (by kernel_rfl) (by simp [AV.pure, AV.pureL]) (by simp [AV.pure, AV.pureL]) ?_
 have h1 := w_indexNeg (qs := qs) hl
 have h2 := negI_ge qs 0
 generalize negI qs 0 = z at *
 generalize (qs.all fun q => !decide (q < 0)) = p at *
 rw [← h2]
 (refine callOk_of_wpc (W := fun _ => false) false hm' Tryz.func27 rfl (by kernel_rfl) (Nat.le_of_ble_eq_true rfl) (go_start ?_); generalize hQ : Post Tryz.prog Tryz.f27 _ _ _ _ _ = Q; simp only [stIn, matL, matA, st00])
 simp (disch := omega) only [go_sem, Nat.reduceEqDiff, Nat.reduceBEq, ↓reduceIte, reduceCtorEq, h1]
 (repeat (with_reducible refine Or.inr ?_))
 rw [← hQ]
 exact post_one (.inl rfl) rfl (by simp [upd_app]) rfl
attribute [go_sem] w_hasNeg
theorem i_leave {fr : Nat → AV} {h : Nat → Blk} {nx id o n i : Nat} {av sv : AV} {rs : List (List Rat)} {r : List Rat} {e : Bool} (hb : h id = ⟨46, [.agg [av, sv, .ref o n 0 n]], true, false, true⟩) (hid : id < nx)
  (ho : h o = ⟨43, rwI rs, e, true, true⟩) (hon : o < nx) (hrs : rs.length = n) (hr : rs[i]? = some r) (hrn : r.length ≤ 1000) :
  InOk Tryz.prog ⟨fr, h, nx⟩ 32 [.ptr id 1 0 0, .int .i64 i] (rI (lvM r.length) (1 - sumL r)) ⟨fr, h, nx⟩ := by
 refine inOkS0 (W := ⟨fun _ => false, fun _ => none⟩) hm' Tryz.func32 rfl (by kernel_rfl) (Nat.le_of_ble_eq_true rfl) (go_start ?_)
 generalize hQ : PostS Tryz.prog Tryz.f32 _ _ _ _ = Q
 have hi : i < n := by rw [← hrs]; exact (List.getElem?_eq_some_iff.1 hr).1
 have ati := rwI_at hr
 have hol : (rwI rs).length = n := by rw [rwI_len, hrs]
 have n1 : (id = nx) = False := by simp; omega
 have n2 : (o = nx) = False := by simp; omega
 have hT := w_sum (m := 700) (qs := r) (by omega) (by omega)
 have hw1 : CW Tryz.prog 31 [.int .i64 1] (rI 64 1) := w_whole (n := 1) (by omega) (by omega)
 simp (disch := omega) only [go_sem, Nat.reduceEqDiff, Nat.reduceBEq, ↓reduceIte, reduceCtorEq, hb, ho, ati, hol, n1, n2, hT, hw1]
 (repeat (with_reducible refine Or.inr ?_))
 rw [← hQ]
 exact postS_cell1 (id := nx) (x := rI (lvM r.length) (1 - sumL r)) (.inl rfl) rfl o_iRat (by simp [upd_app] <;> omega) (by simp [upd_app]) (by simp [upd_app, lvM]) ld_iRat (by simp [AV.pure, AV.pureL]) (fun k hk _ => by simp (disch := omega) only [upd_app, if_neg])
theorem sgn_pos {q : Rat} (h : 0 ≤ q) : decide (0 < q.num.sign) = !decide (q = 0) := by
  rw [sign_pos]
  by_cases c : q = 0
  · rw [c]; rfl
  · have h1 : 0 < q := by grind
    simp [c, h1]
set_option maxHeartbeats 4000000 in
theorem i_toEnd {fr : Nat → AV} {h : Nat → Blk} {nx o l n M : Nat} {rs : List (List Rat)} {ls : List Rat} {e1 e2 : Bool} (ho : h o = ⟨43, rwI rs, e1, true, true⟩) (hon : o < nx) (hl : h l = ⟨70, ratL M ls, e2, true, true⟩) (hln : l < nx)
    (hrs : rs.length = n) (hls : ls.length = n) (hrn : ∀ (i : Nat) (r : List Rat), rs[i]? = some r → r.length = n ∧ nonneg r = true) (hlv : ∀ (i : Nat) (r : List Rat), rs[i]? = some r → ls[i]? = some (1 - sumL r) ∧ ¬ 1 < sumL r) (hn : n ≤ 6) (hM : M ≤ 100000) :
    InOk Tryz.prog ⟨fr, h, nx⟩ 34 [.ref o n 0 n, .ref l n 0 n] (.sl 4 (boolA (mapB n (eAll (lvL rs) (nzL rs) n n))) [] false) ⟨fr, h, nx⟩ := by
  refine inOkS0 (W := ⟨fun _ => false, fun _ => none⟩) hm' Tryz.func34 rfl (by kernel_rfl) (Nat.le_of_ble_eq_true rfl) (go_start ?_)
  generalize hQ : PostS Tryz.prog Tryz.f34 _ _ _ _ = Q
  have hol : (rwI rs).length = n := by rw [rwI_len, hrs]
  have hll : (ratL M ls).length = n := by rw [ratL_length, hls]
  have hb0 : ((n * 1 : Nat) : Int) ≤ 140737488355328 := by omega
  have n1 : (o = nx) = False := by simp; omega
  have n2 : (l = nx) = False := by simp; omega
  have hrep : List.replicate n (AV.bool false) = boolA (mapB n fun _ => false) := by rw [← mapB_false]; simp [boolA]
  simp (disch := omega) only [go_sem, Nat.reduceEqDiff, Nat.reduceBEq, ↓reduceIte, reduceCtorEq, hl, hll, n1, n2, reach, hb0, hrep]
  refine k_loop (fun (t : Nat) st => st.fr 0 = .ref o n 0 n ∧ st.fr 1 = .ref l n 0 n ∧ st.fr 5 = .ref nx n 0 n ∧ st.fr 13 = .int .i64 n ∧ st.fr 14 = .int .i64 t ∧ st.h nx = ⟨4, boolA (mapB n (eAll (lvL rs) (nzL rs) n t)), true, true, true⟩ ∧ (∀ k, k < nx → st.h k = h k) ∧ nx < st.nx ∧ t ≤ n) (fun t => n - t) 0
    ⟨(by simp [upd_app] <;> omega), (by simp [upd_app] <;> omega), (by simp [upd_app] <;> omega), (by simp [upd_app] <;> omega), (by simp [upd_app] <;> omega), by simp [upd_app]; rfl, fun k hk => by simp (disch := omega) only [upd_app, if_neg], by simp, by omega⟩ ?_
  rintro t ⟨fr1, h1, nx1⟩ ⟨g0, g1, g5, g13, g14, hm, hold, hnx, ht⟩ J hJ
  simp only at g0 g1 g5 g13 g14 hm hold hnx
  by_cases hin : t < n
  · have keyJ := hJ (t + 1)
    clear hJ
    have hA : eAll (lvL rs) (nzL rs) n (t + 1) = eRow (lvL rs) (nzL rs) n (eAll (lvL rs) (nzL rs) n t) n := rfl
    rw [hA] at keyJ
    generalize eAll (lvL rs) (nzL rs) n t = S0 at *
    have hl1 : h1 l = ⟨70, ratL M ls, e2, true, true⟩ := by rw [hold l hln]; exact hl
    simp (disch := omega) only [go_sem, Nat.reduceEqDiff, Nat.reduceBEq, ↓reduceIte, reduceCtorEq, g0, g1, g5, g13, g14, hl1, hll]
    refine k_loop (fun (i : Nat) st => st.fr 0 = .ref o n 0 n ∧ st.fr 1 = .ref l n 0 n ∧ st.fr 5 = .ref nx n 0 n ∧ st.fr 13 = .int .i64 n ∧ st.fr 14 = .int .i64 t ∧ st.fr 17 = .int .i64 n ∧ st.fr 18 = .int .i64 i ∧ st.h nx = ⟨4, boolA (mapB n (eRow (lvL rs) (nzL rs) n S0 i)), true, true, true⟩ ∧ (∀ k, k < nx → st.h k = h k) ∧ nx < st.nx ∧ i ≤ n) (fun i => n - i) 0
      ⟨(by simp [upd_app, g0] <;> omega), (by simp [upd_app, g1] <;> omega), (by simp [upd_app, g5] <;> omega), (by simp [upd_app, g13] <;> omega), (by simp [upd_app, g14] <;> omega), (by simp [upd_app] <;> omega), (by simp [upd_app] <;> omega), by simpa [eRow] using hm, hold, hnx, by omega⟩ ?_
    clear hm hold hl1 hnx
    rintro i ⟨fr2, h2, nx2⟩ ⟨s0, s1, s5, s13, s14, s17, s18, hm, hold, hnx, hi⟩ J2 hJ2
    simp only at s0 s1 s5 s13 s14 s17 s18 hm hold hnx
    by_cases hin2 : i < n
    · have keyJ2 := hJ2 (i + 1)
      clear hJ2
      have hR : eRow (lvL rs) (nzL rs) n S0 (i + 1) = eStep (lvL rs) (nzL rs) n (eRow (lvL rs) (nzL rs) n S0 i) i := rfl
      rw [hR, ← eOut_full] at keyJ2
      generalize eRow (lvL rs) (nzL rs) n S0 i = S at *
      obtain ⟨r, hr⟩ := get_some (xs := rs) (i := i) (by omega)
      have hgr : rs.getD i [] = r := by rw [List.getD_eq_getElem?_getD, hr]; rfl
      obtain ⟨hrl, hrp⟩ := hrn i r hr
      obtain ⟨hli, hl1s⟩ := hlv i r hr
      have hl0 : (0 : Rat) ≤ 1 - sumL r := by grind
      have hlvi : decide (0 < (1 - sumL r).num.sign) = lvL rs i := by rw [lvL, hgr]; exact sgn_pos hl0
      have hl2 : h2 l = ⟨70, ratL M ls, e2, true, true⟩ := by rw [hold l hln]; exact hl
      have ho2 : h2 o = ⟨43, rwI rs, e1, true, true⟩ := by rw [hold o hon]; exact ho
      have hbl : ∀ T : Nat → Bool, (boolA (mapB n T)).length = n := fun T => by rw [boolA_len, mapB_len]
      have hat : ∀ (T : Nat → Bool) k, k < n → (mapB n T)[k]? = some (T k) := fun T k hk => mapB_at hk
      have ati := rwI_at hr
      have m1 : (o = nx) = False := n1
      have hset0 : ∀ b, b = eOut (lvL rs) (nzL rs) S i 0 i → (boolA (mapB n S)).set i (.bool b) = boolA (mapB n (eOut (lvL rs) (nzL rs) S i 0)) := fun b hb => by rw [boolA_put, mapB_set hb (fun k hk => eOut_other hk)]
      have he0 : eOut (lvL rs) (nzL rs) S i 0 i = (S i || lvL rs i) := by rw [eOut_zero]; simp
      have hs0 := hset0 (S i || lvL rs i) he0.symm
      have hsg := w_sign (m := M) (a := 1 - sumL r) (by omega)
      generalize (1 - sumL r).num.sign = c at *
      generalize eOut_z : eOut (lvL rs) (nzL rs) S i 0 = T0 at *
      have hcase : S i = true ∨ (S i = false ∧ 0 < c) ∨ (S i = false ∧ ¬ 0 < c) := by
        cases S i
        · by_cases h : 0 < c
          · exact .inr (.inl ⟨rfl, h⟩)
          · exact .inr (.inr ⟨rfl, h⟩)
        · exact .inl rfl
      rcases hcase with hS | ⟨hS, hc⟩ | ⟨hS, hc⟩ <;> rw [hS] at hs0
      focus
        simp only [Bool.true_or] at hs0
        simp (disch := omega) only [go_sem, Nat.reduceEqDiff, Nat.reduceBEq, ↓reduceIte, reduceCtorEq, s0, s1, s5, s13, s14, s17, s18, hm, hbl, boolA_at, hat, n1, n2, hl2, hll, hs0, ho2, hol, ati, hS]
      rotate_left 1
      focus
        rw [decide_eq_true hc] at hlvi
        rw [← hlvi] at hs0
        simp only [Bool.false_or] at hs0
        have hdt : decide (c > 0) = true := decide_eq_true hc
        simp (disch := omega) only [go_sem, Nat.reduceEqDiff, Nat.reduceBEq, ↓reduceIte, reduceCtorEq, s0, s1, s5, s13, s14, s17, s18, hm, hbl, boolA_at, hat, n1, n2, hl2, hll, hs0, ho2, hol, ati, hS, hli, hsg, hdt]
      rotate_left 1
      focus
        rw [decide_eq_false hc] at hlvi
        rw [← hlvi] at hs0
        simp only [Bool.false_or] at hs0
        have hdd : decide (c > 0) = false := decide_eq_false hc
        simp (disch := omega) only [go_sem, Nat.reduceEqDiff, Nat.reduceBEq, ↓reduceIte, reduceCtorEq, s0, s1, s5, s13, s14, s17, s18, hm, hbl, boolA_at, hat, n1, n2, hl2, hll, hs0, ho2, hol, ati, hS, hli, hsg, hdd]
      rotate_left 1
      all_goals try (repeat (with_reducible refine Or.inr ?_))
      all_goals
        have hrM : (ratL 700 r).length = n := by rw [ratL_length, hrl]
        refine k_loop (fun (j : Nat) st => st.fr 0 = .ref o n 0 n ∧ st.fr 1 = .ref l n 0 n ∧ st.fr 5 = .ref nx n 0 n ∧ st.fr 13 = .int .i64 n ∧ st.fr 14 = .int .i64 t ∧ st.fr 17 = .int .i64 n ∧ st.fr 18 = .int .i64 i ∧ st.fr 6 = .int .i64 i ∧ st.fr 39 = .sl 70 (ratL 700 r) [] false ∧ st.fr 40 = .int .i64 n ∧ st.fr 41 = .int .i64 j ∧
          st.h nx = ⟨4, boolA (mapB n (eOut (lvL rs) (nzL rs) S i j)), true, true, true⟩ ∧ (∀ k, k < nx → st.h k = h k) ∧ nx < st.nx ∧ j ≤ n) (fun j => n - j) 0
          ⟨(by simp [upd_app, s0] <;> omega), (by simp [upd_app, s1] <;> omega), (by simp [upd_app, s5] <;> omega), (by simp [upd_app, s13] <;> omega), (by simp [upd_app, s14] <;> omega), (by simp [upd_app, s17] <;> omega), (by simp [upd_app, s18] <;> omega), (by simp [upd_app] <;> omega), (by simp [upd_app] <;> omega), by simp [upd_app, hrl], (by simp [upd_app] <;> omega), by simp (disch := omega) only [upd_app, ↓reduceIte, if_neg, if_pos, hm, eOut_z], fun k hk => by simp (disch := omega) only [upd_app, if_neg, hold k hk], by simp only; omega, by omega⟩ ?_
        clear hm hold hnx hl2 ho2 hlvi hs0 hset0 he0 hsg
        rintro j ⟨fr3, h3, nx3⟩ ⟨r0, r1, r5, r13, r14, r17, r18, r6, r39, r40, r41, hm3, hold3, hnx3, hj⟩ J3 hJ3
        simp only at r0 r1 r5 r13 r14 r17 r18 r6 r39 r40 r41 hm3 hold3 hnx3
        by_cases hin3 : j < n
        · have key3 := hJ3 (j + 1)
          clear hJ3
          obtain ⟨q, hq⟩ := get_some (xs := r) (i := j) (by omega)
          have hq0 : 0 ≤ q := by
            have := List.all_eq_true.1 hrp q (List.mem_of_getElem? hq)
            exact Rat.not_lt.1 (by simpa using this)
          have hnz : decide (0 < q.num.sign) = nzL rs i j := by rw [nzL, hgr, getD_of hq]; exact sgn_pos hq0
          have hsq := w_sign (m := 700) (a := q) (by omega)
          have k1 : (nx = nx3) = False := by simp; omega
          have k2 : (nx3 = nx) = False := by simp; omega
          have hupd : True := trivial
          have hstep := @eOut_succ (lvL rs) (nzL rs) S i j
          have hset1 : ∀ b, b = eOut (lvL rs) (nzL rs) S i (j + 1) i → (boolA (mapB n (eOut (lvL rs) (nzL rs) S i j))).set i (.bool b) = boolA (mapB n (eOut (lvL rs) (nzL rs) S i (j + 1))) := fun b hb => by rw [boolA_put, mapB_set hb (fun k hk => by rw [eOut_other hk, eOut_other hk])]
          generalize eOut (lvL rs) (nzL rs) S i (j + 1) = T1 at *
          generalize eOut (lvL rs) (nzL rs) S i j = T at *
          generalize q.num.sign = d at *
          cases hTi : T i with
          | true =>
            rw [hTi, Bool.true_or] at hstep
            have hs1 := hset1 true hstep
            simp (disch := omega) only [go_sem, Nat.reduceEqDiff, Nat.reduceBEq, ↓reduceIte, reduceCtorEq, r0, r1, r5, r13, r14, r17, r18, r6, r39, r40, r41, hm3, hbl, boolA_at, hat, hrM, hq, k1, k2, hupd, hTi, hs1]
            (repeat (with_reducible refine Or.inr ?_))
            exact key3 _ ⟨(by simp [upd_app, r0] <;> omega), (by simp [upd_app, r1] <;> omega), (by simp [upd_app, r5] <;> omega), (by simp [upd_app, r13] <;> omega), (by simp [upd_app, r14] <;> omega), (by simp [upd_app, r17] <;> omega), (by simp [upd_app, r18] <;> omega), (by simp [upd_app, r6] <;> omega), (by simp [upd_app, r39] <;> omega), (by simp [upd_app, r40] <;> omega), (by simp [upd_app] <;> omega), by simp (disch := omega) only [upd_app, ↓reduceIte, if_neg, if_pos, hm3], fun k hk => by simp (disch := omega) only [upd_app, if_neg, hold3 k hk], by simp only; omega, hin3⟩ (by omega)
          | false =>
            rw [hTi, Bool.false_or] at hstep
            by_cases hd : 0 < d
            · rw [decide_eq_true hd] at hnz
              rw [← hnz, Bool.true_and] at hstep
              have hs1 := hset1 (T j) hstep
              cases hTj : T j <;> rw [hTj] at hs1
              · simp (disch := omega) only [go_sem, Nat.reduceEqDiff, Nat.reduceBEq, ↓reduceIte, reduceCtorEq, r0, r1, r5, r13, r14, r17, r18, r6, r39, r40, r41, hm3, hbl, boolA_at, hat, hrM, hq, k1, k2, hupd, hTi, hTj, hs1, hsq, hd]
                (repeat (with_reducible refine Or.inr ?_))
                exact key3 _ ⟨(by simp [upd_app, r0] <;> omega), (by simp [upd_app, r1] <;> omega), (by simp [upd_app, r5] <;> omega), (by simp [upd_app, r13] <;> omega), (by simp [upd_app, r14] <;> omega), (by simp [upd_app, r17] <;> omega), (by simp [upd_app, r18] <;> omega), (by simp [upd_app, r6] <;> omega), (by simp [upd_app, r39] <;> omega), (by simp [upd_app, r40] <;> omega), (by simp [upd_app] <;> omega), by simp (disch := omega) only [upd_app, ↓reduceIte, if_neg, if_pos, hm3], fun k hk => by simp (disch := omega) only [upd_app, if_neg, hold3 k hk], by simp only; omega, hin3⟩ (by omega)
              · simp (disch := omega) only [go_sem, Nat.reduceEqDiff, Nat.reduceBEq, ↓reduceIte, reduceCtorEq, r0, r1, r5, r13, r14, r17, r18, r6, r39, r40, r41, hm3, hbl, boolA_at, hat, hrM, hq, k1, k2, hupd, hTi, hTj, hs1, hsq, hd]
                (repeat (with_reducible refine Or.inr ?_))
                exact key3 _ ⟨(by simp [upd_app, r0] <;> omega), (by simp [upd_app, r1] <;> omega), (by simp [upd_app, r5] <;> omega), (by simp [upd_app, r13] <;> omega), (by simp [upd_app, r14] <;> omega), (by simp [upd_app, r17] <;> omega), (by simp [upd_app, r18] <;> omega), (by simp [upd_app, r6] <;> omega), (by simp [upd_app, r39] <;> omega), (by simp [upd_app, r40] <;> omega), (by simp [upd_app] <;> omega), by simp (disch := omega) only [upd_app, ↓reduceIte, if_neg, if_pos, hm3], fun k hk => by simp (disch := omega) only [upd_app, if_neg, hold3 k hk], by simp only; omega, hin3⟩ (by omega)
            · rw [decide_eq_false hd] at hnz
              rw [← hnz, Bool.false_and] at hstep
              have hs1 := hset1 false hstep
              have hdd : decide (d > 0) = false := decide_eq_false hd
              simp (disch := omega) only [go_sem, Nat.reduceEqDiff, Nat.reduceBEq, ↓reduceIte, reduceCtorEq, r0, r1, r5, r13, r14, r17, r18, r6, r39, r40, r41, hm3, hbl, boolA_at, hat, hrM, hq, k1, k2, hupd, hTi, hs1, hsq, hdd]
              (repeat (with_reducible refine Or.inr ?_))
              exact key3 _ ⟨(by simp [upd_app, r0] <;> omega), (by simp [upd_app, r1] <;> omega), (by simp [upd_app, r5] <;> omega), (by simp [upd_app, r13] <;> omega), (by simp [upd_app, r14] <;> omega), (by simp [upd_app, r17] <;> omega), (by simp [upd_app, r18] <;> omega), (by simp [upd_app, r6] <;> omega), (by simp [upd_app, r39] <;> omega), (by simp [upd_app, r40] <;> omega), (by simp [upd_app] <;> omega), by simp (disch := omega) only [upd_app, ↓reduceIte, if_neg, if_pos, hm3], fun k hk => by simp (disch := omega) only [upd_app, if_neg, hold3 k hk], by simp only; omega, hin3⟩ (by omega)
        · obtain rfl : j = n := by omega
          simp (disch := omega) only [go_sem, Nat.reduceEqDiff, Nat.reduceBEq, ↓reduceIte, reduceCtorEq, r0, r1, r5, r13, r14, r17, r18, r6, r39, r40, r41]
          exact keyJ2 _ ⟨(by simp [upd_app, r0] <;> omega), (by simp [upd_app, r1] <;> omega), (by simp [upd_app, r5] <;> omega), (by simp [upd_app, r13] <;> omega), (by simp [upd_app, r14] <;> omega), (by simp [upd_app, r17] <;> omega), (by simp [upd_app] <;> omega), hm3, hold3, hnx3, hin2⟩ (by omega)
    · obtain rfl : i = n := by omega
      simp (disch := omega) only [go_sem, Nat.reduceEqDiff, Nat.reduceBEq, ↓reduceIte, reduceCtorEq, s0, s1, s5, s13, s14, s17, s18]
      exact keyJ _ ⟨(by simp [upd_app, s0] <;> omega), (by simp [upd_app, s1] <;> omega), (by simp [upd_app, s5] <;> omega), (by simp [upd_app, s13] <;> omega), (by simp [upd_app] <;> omega), hm, hold, hnx, hin⟩ (by omega)
  · obtain rfl : t = n := by omega
    simp (disch := omega) only [go_sem, Nat.reduceEqDiff, Nat.reduceBEq, ↓reduceIte, reduceCtorEq, g0, g1, g5, g13, g14]
    rw [← hQ]
    exact postS_frozen (id := nx) (n := t) (off := 0) (len := t) (.inl rfl) rfl (by simp [upd_app] <;> omega) (by simp [hm]) (by simp [hm, boolA_len, mapB_len]) (by simp [hm]) (by omega) (by omega) (by simp only [hm, List.drop_zero]; exact List.take_of_length_le (by rw [boolA_len, mapB_len]; exact Nat.le_refl _)) (boolA_pure _) (fun i hi _ => by simp only; exact hold i hi)
def falI : List Bool → Nat → Int
 | [], _ => -1
 | b :: bs, k => if b = true then falI bs (k + 1) else k
theorem falI_ge : ∀ (bs : List Bool) (k : Nat), decide (0 ≤ falI bs k) = !(bs.all id)
 | [], k => rfl
 | b :: bs, k => by
  have ih := falI_ge bs (k + 1)
  unfold falI
  cases b with
  | true => simpa using ih
  | false => simp
theorem falI_at {bs : List Bool} {i : Nat} {b : Bool} (h : bs[i]? = some b) : falI (bs.drop i) i = if b = true then falI (bs.drop (i + 1)) (i + 1) else (i : Int) := by
 have hi := (List.getElem?_eq_some_iff.1 h).1
 rw [List.drop_eq_getElem_cons hi, falI, (List.getElem?_eq_some_iff.1 h).2]
theorem w_indexF {bs : List Bool} (hl : bs.length ≤ 1000) : CW Tryz.prog 58 [.sl 4 (boolA bs) [] false, .bool false] (.int .i64 (falI bs 0)) := by
  refine cw (by kernel_rfl) (by simp [AV.pure, AV.pureL]) (by simp [AV.pure, AV.pureL]) ?_
  obtain ⟨L, hL⟩ : ∃ n, bs.length = n := ⟨_, rfl⟩
  rw [hL] at hl
  obtain ⟨a, ha⟩ : ∃ a, falI bs 0 = a := ⟨_, rfl⟩
  rw [ha]
  (refine callOk_of_wpc (W := fun _ => false) false hm' Tryz.func58 rfl (by kernel_rfl) (Nat.le_of_ble_eq_true rfl) (go_start ?_); generalize hQ : Post Tryz.prog Tryz.f58 _ _ _ _ _ = Q; simp only [stIn, matL, matA, st00])
  simp (disch := omega) only [go_sem, Nat.reduceEqDiff, Nat.reduceBEq, ↓reduceIte, reduceCtorEq, boolA_len, hL]
  refine k_loop (fun (i : Nat) st => st.fr 0 = .sl 4 (boolA bs) [] false ∧ st.fr 1 = .bool false ∧ st.fr 7 = .int .i64 L ∧ st.fr 8 = .int .i64 i ∧ i ≤ L ∧ falI (bs.drop i) i = a) (fun i => L - i) 0 ⟨(by simp [upd_app] <;> omega), (by simp [upd_app] <;> omega), (by simp [upd_app] <;> omega), (by simp [upd_app] <;> omega), by omega, by simpa using ha⟩ ?_
  rintro i ⟨fr, h, nx⟩ ⟨g0, g1, g7, g8, hi, hf⟩ J hJ
  simp only at g0 g1 g7 g8
  by_cases hin : i < L
  · obtain ⟨b, hb⟩ := get_some (xs := bs) (i := i) (by omega)
    have hat := falI_at hb
    cases b with
    | true =>
      rw [if_pos rfl] at hat
      have e : (false == true) = false := rfl
      simp (disch := omega) only [go_sem, Nat.reduceEqDiff, Nat.reduceBEq, ↓reduceIte, reduceCtorEq, g0, g1, g7, g8, boolA_len, hL, boolA_at, hb, e]
      exact hJ (i + 1) _ ⟨(by simp [upd_app, g0] <;> omega), (by simp [upd_app, g1] <;> omega), (by simp [upd_app, g7] <;> omega), (by simp [upd_app] <;> omega), hin, by rw [← hat, hf]⟩ (by omega)
    | false =>
      rw [if_neg (by decide)] at hat
      have e : (false == false) = true := rfl
      rw [← hf, hat] at hQ
      simp (disch := omega) only [go_sem, Nat.reduceEqDiff, Nat.reduceBEq, ↓reduceIte, reduceCtorEq, g0, g1, g7, g8, boolA_len, hL, boolA_at, hb, e]
      rw [← hQ]
      exact post_one (.inl rfl) rfl (by simp [upd_app] <;> omega) rfl
  · obtain rfl : i = L := by omega
    rw [List.drop_eq_nil_of_le (by omega), falI] at hf
    rw [← hf] at hQ
    simp (disch := omega) only [go_sem, Nat.reduceEqDiff, Nat.reduceBEq, ↓reduceIte, reduceCtorEq, g0, g1, g7, g8]
    rw [← hQ]
    exact post_one (.inl rfl) rfl (by simp [upd_app] <;> omega) rfl
theorem c_hasF {bs : List Bool} (hl : bs.length ≤ 1000) : CallOk Tryz.prog 33 [.sl 4 (boolA bs) [] false, .bool false] (.bool (!(bs.all id))) [] := by
 have h1 := w_indexF (bs := bs) hl
 have h2 := falI_ge bs 0
 generalize falI bs 0 = z at *
 generalize (bs.all id) = p at *
 rw [← h2]
 (refine callOk_of_wpc (W := fun _ => false) false hm' Tryz.func33 rfl (by kernel_rfl) (Nat.le_of_ble_eq_true rfl) (go_start ?_); generalize hQ : Post Tryz.prog Tryz.f33 _ _ _ _ _ = Q; simp only [stIn, matL, matA, st00])
 simp (disch := omega) only [go_sem, Nat.reduceEqDiff, Nat.reduceBEq, ↓reduceIte, reduceCtorEq, h1]
 (repeat (with_reducible refine Or.inr ?_))
 rw [← hQ]
 exact post_one (.inl rfl) rfl (by simp [upd_app]) rfl
theorem post_cellS {P : Program} {fn : Func} {n0 : Nat} {fl : Bool} {t u : Tmp} {T id : Nat} {x y r : AV} {ids : List Nat} {b : Bool} {st : St} {e : Ex} (he : e = .ret ∨ e = .normal) (hr : fn.results.toList = [.cell t T, .tmp u]) (hok : okT P T = true) (hv : st.fr t = .ptr id 1 0 0) (hw : st.fr u = .bool b)
    (hlv : (st.h id).lv = true) (hx : (st.h id).xs = [x]) (hl : ldA P T x 0 = some y) (hs : snapA st 7 y = some (r, ids)) (hids : ∀ i ∈ ids, n0 ≤ i) :
    Post P fn n0 fl false (.tup [r, .bool b]) [] e st := by
  refine ⟨by rcases he with rfl | rfl <;> trivial, .tup [y, .bool b], by rw [hr]; simp [resV, resL, resA, hv, hw, hok, loadA, hlv, hx, hl], ids, ?_, .inl rfl⟩
  simp only [Bool.false_eq_true, if_false]
  refine ⟨?_, hids⟩
  have h2 : snapA st 7 (.bool b) = some (.bool b, []) := snapA_pure rfl
  have : snapA st (7 + 1) (.tup [y, .bool b]) = some (.tup [r, .bool b], ids) := by
    by_cases hy : y.pure = true
    · have := snapA_pure (st := st) (n := 7) hy
      rw [hs] at this
      simp only [Option.some.injEq, Prod.mk.injEq] at this
      obtain ⟨rfl, rfl⟩ := this
      exact snapA_pure (by simp [AV.pure, AV.pureL, hy])
    · rw [snapA]
      simp [AV.pure, AV.pureL, snapL, hs, h2, hy]
  exact this
attribute [go_sem] w_indexF
abbrev NR.iv (x : NR) : AV := .agg [lI 700 x.arr, lI 700 x.srv, .sl 43 (rwI x.rts) [] false]
def netI (m : Ntw) : AV := match netQ m with
 | some x => .tup [x.iv, .bool (endsB (lvL x.rts) (nzL x.rts) m.srv.length)]
 | none => .tup [.agg [.nil, .nil, .nil], .bool false]
theorem mapB_all {n : Nat} {S : Nat → Bool} : (mapB n S).all id = (List.range n).all S := by simp [mapB, List.all_map]
set_option maxRecDepth 10000 in
set_option maxHeartbeats 8000000 in
theorem c_networkOf {m : Ntw} (hm0 : m.small) (hpm : AV.pureL (rowsT m.rts) = true) : CallOk Tryz.prog 14 [m.av] (netI m) [] := by
  obtain ⟨⟨a1, a2⟩, ⟨b1, b2⟩, c1, c2⟩ := hm0
  have wA := w_rats (xs := m.arr) (by omega) (fun x hx => by have := a2 x hx; omega)
  have wS := w_positives (xs := m.srv) (ex := false) b1 b2
  obtain ⟨k, hk⟩ : ∃ k, m.srv.length = k := ⟨_, rfl⟩
  obtain ⟨ka, hka⟩ : ∃ k, m.arr.length = k := ⟨_, rfl⟩
  obtain ⟨kr, hkr⟩ : ∃ k, m.rts.length = k := ⟨_, rfl⟩
  rw [netI]
  by_cases hnet : netOk m
  · have hnet' := hnet
    unfold netOk at hnet'
    rw [hk, hka, hkr] at hnet'
    obtain ⟨k1, k6, rfl, rfl⟩ := hnet'
    rw [netQ, if_pos hnet]
    cases hla : listR m.arr with
    | none =>
      rw [hla, optLI] at wA
      cases hls : m.srv.mapM posR with
      | none =>
        rw [hls, optLI] at wS
        (refine callOk_of_wpcD (W := ⟨fun _ => false, fun r => if r = 18 then some [(0, 0), (2, 7), (4, 7), (5, 7)] else none⟩) false hm' Tryz.func14 rfl (by kernel_rfl) (Nat.le_of_ble_eq_true rfl) (go_start ?_); generalize hQ : Post Tryz.prog Tryz.f14 _ _ _ _ _ = Q; simp only [stIn, matL, matA, st00])
        simp (disch := omega) only [go_sem, Nat.reduceEqDiff, Nat.reduceBEq, ↓reduceIte, reduceCtorEq, ↓k_appE, strA_length, hk, hka, hkr, rowsT_len, wA, wS]
        (repeat (with_reducible refine Or.inr ?_))
        rw [← hQ]
        exact post_cellS (id := 1) (x := .agg [.nil, .nil, .nil]) (ids := []) (.inl rfl) rfl o_nN (by simp [upd_app] <;> omega) (by simp [upd_app] <;> omega) (by simp [upd_app]) (by simp [upd_app]) ld_nN (snapA_pure rfl) (by simp)
      | some s =>
        rw [hls, optLI] at wS
        (refine callOk_of_wpcD (W := ⟨fun _ => false, fun r => if r = 18 then some [(0, 0), (2, 7), (4, 7), (5, 7)] else none⟩) false hm' Tryz.func14 rfl (by kernel_rfl) (Nat.le_of_ble_eq_true rfl) (go_start ?_); generalize hQ : Post Tryz.prog Tryz.f14 _ _ _ _ _ = Q; simp only [stIn, matL, matA, st00])
        simp (disch := omega) only [go_sem, Nat.reduceEqDiff, Nat.reduceBEq, ↓reduceIte, reduceCtorEq, ↓k_appE, strA_length, hk, hka, hkr, rowsT_len, wA, wS]
        (repeat (with_reducible refine Or.inr ?_))
        rw [← hQ]
        exact post_cellS (id := 1) (x := .agg [.nil, .nil, .nil]) (ids := []) (.inl rfl) rfl o_nN (by simp [upd_app] <;> omega) (by simp [upd_app] <;> omega) (by simp [upd_app]) (by simp [upd_app]) ld_nN (snapA_pure rfl) (by simp)
    | some a =>
      rw [hla, optLI] at wA
      have hal : a.length = kr := by
        have := hla; unfold listR at this; rw [if_neg (by omega)] at this; rw [mapMo_len this, hka]
      have wP := w_hasNeg (qs := a) (by omega)
      cases hls : m.srv.mapM posR with
      | none =>
        rw [hls, optLI] at wS
        (refine callOk_of_wpcD (W := ⟨fun _ => false, fun r => if r = 18 then some [(0, 0), (2, 7), (4, 7), (5, 7)] else none⟩) false hm' Tryz.func14 rfl (by kernel_rfl) (Nat.le_of_ble_eq_true rfl) (go_start ?_); generalize hQ : Post Tryz.prog Tryz.f14 _ _ _ _ _ = Q; simp only [stIn, matL, matA, st00])
        simp (disch := omega) only [go_sem, Nat.reduceEqDiff, Nat.reduceBEq, ↓reduceIte, reduceCtorEq, ↓k_appE, strA_length, hk, hka, hkr, rowsT_len, wA, wS]
        (repeat (with_reducible refine Or.inr ?_))
        rw [← hQ]
        exact post_cellS (id := 1) (x := .agg [.nil, .nil, .nil]) (ids := []) (.inl rfl) rfl o_nN (by simp [upd_app] <;> omega) (by simp [upd_app] <;> omega) (by simp [upd_app]) (by simp [upd_app]) ld_nN (snapA_pure rfl) (by simp)
      | some s =>
        rw [hls, optLI] at wS
        have hsl : s.length = kr := by rw [mapMo_len hls, hk]
        by_cases hna : nonneg a = true
        · have hna' : (a.all fun q => !decide (q < 0)) = true := hna
          rw [hna', Bool.not_true] at wP
          simp only [if_pos hna]
          rw [hk]
          (refine callOk_of_wpcD (W := ⟨fun _ => false, fun r => if r = 18 then some [(0, 0), (2, 7), (4, 7), (5, 7)] else none⟩) false hm' Tryz.func14 rfl (by kernel_rfl) (Nat.le_of_ble_eq_true rfl) (go_start ?_); generalize hQ : Post Tryz.prog Tryz.f14 _ _ _ _ _ = Q; simp only [stIn, matL, matA, st00])
          simp (disch := omega) only [go_sem, Nat.reduceEqDiff, Nat.reduceBEq, ↓reduceIte, reduceCtorEq, ↓k_appE, strA_length, hk, hka, hkr, rowsT_len, wA, wS, wP]
          (repeat (with_reducible refine Or.inr ?_))
          refine k_loop (fun (⟨i, o, qs⟩ : Nat × Nat × List (List Rat)) st => st.fr 1 = .ptr 0 1 0 0 ∧ st.fr 2 = .ptr 1 1 0 0 ∧ st.fr 4 = .int .i64 kr ∧ st.fr 9 = .ptr 3 1 0 0 ∧ st.fr 10 = .ref 2 i 0 i ∧ st.fr 67 = .sl 22 (rowsT m.rts) [] false ∧ st.fr 68 = .int .i64 kr ∧ st.fr 69 = .int .i64 i ∧ st.h 0 = ⟨28, [m.av], true, false, true⟩ ∧
              st.h 1 = ⟨46, [.agg [.nil, .nil, .nil]], true, false, true⟩ ∧ st.h 2 = ⟨70, ratL (lvM kr) (qs.map fun r => 1 - sumL r), (i == 0), true, true⟩ ∧ st.h 3 = ⟨46, [.agg [lI 700 a, lI 700 s, if i = 0 then .nil else .ref o i 0 i]], true, false, true⟩ ∧
              (0 < i → st.h o = ⟨43, rwI qs, false, true, true⟩ ∧ 4 ≤ o ∧ o < st.nx) ∧ 4 ≤ st.nx ∧ i ≤ kr ∧ qs.length = i ∧ (m.rts.take i).mapM (rowQ kr) = some qs) (fun (⟨i, _, _⟩ : Nat × Nat × List (List Rat)) => kr - i) (0, 0, [])
            ⟨(by simp [upd_app] <;> omega), (by simp [upd_app] <;> omega), (by simp [upd_app] <;> omega), (by simp [upd_app] <;> omega), (by simp [upd_app] <;> omega), (by simp [upd_app] <;> omega), (by simp [upd_app] <;> omega), (by simp [upd_app] <;> omega), by simp [upd_app], by simp [upd_app], by simp [upd_app, ratL], by simp [upd_app], by omega, by simp, by omega, rfl, by simp⟩ ?_
          rintro ⟨i, o, qs⟩ ⟨fr1, h2, nx1⟩ ⟨g1, g2, g4, g9, g10, g67, g68, g69, hm0, hm1, hm2, hm3, hmo, hnx, hi, hql, hqm⟩ J hJ
          simp only at g1 g2 g4 g9 g10 g67 g68 g69 hm0 hm1 hm2 hm3 hmo hnx hi hql hqm
          have m0 : (0 = nx1) = False := by simp; omega
          have m1 : (1 = nx1) = False := by simp; omega
          have m2 : (2 = nx1) = False := by simp; omega
          have m3 : (3 = nx1) = False := by simp; omega
          have m0' : (nx1 = 0) = False := by simp; omega
          have m1' : (nx1 = 1) = False := by simp; omega
          have m2' : (nx1 = 2) = False := by simp; omega
          have m3' : (nx1 = 3) = False := by simp; omega
          by_cases hin : i < kr
          · obtain ⟨xs, hx⟩ := get_some (xs := m.rts) (i := i) (by omega)
            have rtx := rowsT_at hx
            have hrl : (rowsT m.rts).length = kr := by rw [rowsT_len, hkr]
            obtain ⟨x1, x2⟩ := c2 xs (List.mem_of_getElem? hx)
            have wR := w_rats (xs := xs) (by omega) (fun x hx => by have := x2 x hx; omega)
            have hbadrow : rowQ kr xs = none → Post Tryz.prog Tryz.f14 (matL false [m.av] st00).snd.nx (AV.flatL [m.av]) false (.tup [.agg [.nil, .nil, .nil], .bool false]) [] = Q := fun hn => by rw [← hQ, mapM_fail hx hn]
            cases hlr : listR xs with
            | none =>
              rw [hlr, optLI] at wR
              have hQ := hbadrow (by unfold rowQ; rw [hlr])
              simp (disch := omega) only [go_sem, Nat.reduceEqDiff, Nat.reduceBEq, ↓reduceIte, reduceCtorEq, ↓k_appE, g1, g2, g4, g9, g10, g67, g68, g69, hm0, hm1, hm2, hm3, m0, m1, m2, m3, m0', m1', m2', m3', hrl, rtx, rowsT_len, wR]
              (repeat (with_reducible refine Or.inr ?_))
              rw [← hQ]
              exact post_cellS (id := 1) (x := .agg [.nil, .nil, .nil]) (ids := []) (.inl rfl) rfl o_nN (by simp [upd_app] <;> omega) (by simp [upd_app] <;> omega) (by simp (disch := omega) only [upd_app, ↓reduceIte, if_neg, if_pos, hm1]) (by simp (disch := omega) only [upd_app, ↓reduceIte, if_neg, if_pos, hm1]) ld_nN (snapA_pure rfl) (by simp)
            | some q =>
              rw [hlr, optLI] at wR
              by_cases hqn : q.length = kr
              · have wN := w_hasNeg (qs := q) (by omega)
                cases hnn : (q.all fun q => !decide (q < 0)) with
                | false =>
                  rw [hnn, Bool.not_false] at wN
                  have hQ := hbadrow (by unfold rowQ; rw [hlr]; simp only; rw [if_neg (fun h => by have := h.2.1; unfold nonneg at this; rw [hnn] at this; cases this)])
                  simp (disch := omega) only [go_sem, Nat.reduceEqDiff, Nat.reduceBEq, ↓reduceIte, reduceCtorEq, ↓k_appE, g1, g2, g4, g9, g10, g67, g68, g69, hm0, hm1, hm2, hm3, m0, m1, m2, m3, m0', m1', m2', m3', hrl, rtx, rowsT_len, wR, wN, hqn]
                  (repeat (with_reducible refine Or.inr ?_))
                  rw [← hQ]
                  exact post_cellS (id := 1) (x := .agg [.nil, .nil, .nil]) (ids := []) (.inl rfl) rfl o_nN (by simp [upd_app] <;> omega) (by simp [upd_app] <;> omega) (by simp (disch := omega) only [upd_app, ↓reduceIte, if_neg, if_pos, hm1]) (by simp (disch := omega) only [upd_app, ↓reduceIte, if_neg, if_pos, hm1]) ld_nN (snapA_pure rfl) (by simp)
                | true =>
                  rw [hnn, Bool.not_true] at wN
                  have wT := w_sum (m := 700) (qs := q) (by omega) (by omega)
                  rw [hqn] at wT
                  have hw1 : CW Tryz.prog 31 [.int .i64 1] (rI 64 1) := w_whole (n := 1) (by omega) (by omega)
                  have wC := w_cmp (m := 64 + kr * (700 + 1)) (n := 64) (a := sumL q) (b := 1) (by omega)
                  have hgt := cmpR_gt (a := sumL q) (b := 1)
                  generalize cmpR (sumL q) 1 = c at *
                  by_cases hsum : 0 < c
                  · have hQ := hbadrow (by unfold rowQ; rw [hlr]; simp only; rw [if_neg (fun h => h.2.2 (hgt.1 hsum))])
                    have hdt : decide (c > 0) = true := decide_eq_true hsum
                    simp (disch := omega) only [go_sem, Nat.reduceEqDiff, Nat.reduceBEq, ↓reduceIte, reduceCtorEq, ↓k_appE, g1, g2, g4, g9, g10, g67, g68, g69, hm0, hm1, hm2, hm3, m0, m1, m2, m3, m0', m1', m2', m3', hrl, rtx, rowsT_len, wR, wN, hqn, wT, wC, hw1, hdt]
                    (repeat (with_reducible refine Or.inr ?_))
                    rw [← hQ]
                    exact post_cellS (id := 1) (x := .agg [.nil, .nil, .nil]) (ids := []) (.inl rfl) rfl o_nN (by simp [upd_app] <;> omega) (by simp [upd_app] <;> omega) (by simp (disch := omega) only [upd_app, ↓reduceIte, if_neg, if_pos, hm1]) (by simp (disch := omega) only [upd_app, ↓reduceIte, if_neg, if_pos, hm1]) ld_nN (snapA_pure rfl) (by simp)
                  · have hdt : decide (c > 0) = false := decide_eq_false hsum
                    have hrq : rowQ kr xs = some q := by unfold rowQ; rw [hlr]; simp only; rw [if_pos ⟨hqn, hnn, fun h => hsum (hgt.2 h)⟩]
                    have hqm2 := mapM_take hqm hx hrq
                    have hsn : rwI qs ++ [.sl 70 (ratL 700 q) [] false] = rwI (qs ++ [q]) := rwI_snoc
                    have hsl2 : ratL (lvM kr) (qs.map fun r => 1 - sumL r) ++ [rI (lvM kr) (1 - sumL q)] = ratL (lvM kr) ((qs ++ [q]).map fun r => 1 - sumL r) := by rw [List.map_append, ratL_snoc]; rfl
                    have hl2 : (ratL (lvM kr) (qs.map fun r => 1 - sumL r)).length = i := by rw [ratL_length, List.length_map, hql]
                    have hz1 : (i + 1 == 0) = false := by simp
                    have hat : (qs ++ [q])[i]? = some q := by rw [List.getElem?_append_right (by omega), hql, Nat.sub_self]; rfl
                    have hln2 : (qs ++ [q]).length = i + 1 := by simp [hql]
                    have hlvq : rI (lvM q.length) (1 - sumL q) = rI (lvM kr) (1 - sumL q) := by rw [hqn]
                    have keyJ := fun o' => hJ (i + 1, o', qs ++ [q])
                    clear hJ
                    by_cases hi0 : i = 0
                    · subst hi0
                      simp only [if_true] at hm3
                      obtain rfl : qs = [] := List.length_eq_zero_iff.1 hql
                      have hsl0 : ratL (lvM kr) [] ++ [rI (lvM kr) (1 - sumL q)] = ratL (lvM kr) (([] ++ [q]).map fun r => 1 - sumL r) := rfl
                      have hsn0 : ([.sl 70 (ratL 700 q) [] false] : List AV) = rwI ([] ++ [q]) := rfl
                      simp (disch := omega) only [go_sem, Nat.reduceEqDiff, Nat.reduceBEq, ↓reduceIte, reduceCtorEq, ↓k_appE, g1, g2, g4, g9, g10, g67, g68, g69, hm0, hm1, hm2, hm3, m0, m1, m2, m3, m0', m1', m2', m3', hrl, rtx, rowsT_len, wR, wN, wT, wC, hw1, hdt, hqn, reach, List.length_cons, List.length_nil]
                      (repeat (with_reducible refine Or.inr ?_))
                      rw [hsn0]
                      refine callW_I (i_leave (id := 3) (o := nx1) (n := 1) (i := 0) (av := lI 700 a) (sv := lI 700 s) (rs := [] ++ [q]) (r := q) (e := false) (by simp (disch := omega) only [upd_app, ↓reduceIte, if_neg, if_pos]) (by omega) (by simp (disch := omega) only [upd_app, ↓reduceIte, if_neg, if_pos]) (by omega) (by simp) (by simp) (by omega)) (by kernel_rfl) (.inr ⟨rfl, rfl⟩) ?_
                      rw [hlvq]
                      simp (disch := omega) only [go_sem, Nat.reduceEqDiff, Nat.reduceBEq, ↓reduceIte, reduceCtorEq, ↓k_appE, g1, g2, g4, g9, g10, g67, g68, g69, hm0, hm1, hm2, hm3, m0, m1, m2, m3, m0', m1', m2', m3', hrl, rtx, rowsT_len, hl2, hsl0, List.map_nil, reach, List.length_cons, List.length_nil]
                      exact keyJ nx1 _ ⟨(by simp [upd_app, g1] <;> omega), (by simp [upd_app, g2] <;> omega), (by simp [upd_app, g4] <;> omega), (by simp [upd_app, g9] <;> omega), (by simp [upd_app] <;> omega), (by simp [upd_app, g67] <;> omega), (by simp [upd_app, g68] <;> omega), (by simp [upd_app] <;> omega), by simp (disch := omega) only [upd_app, ↓reduceIte, if_neg, if_pos, hm0], by simp (disch := omega) only [upd_app, ↓reduceIte, if_neg, if_pos, hm1], by simp (disch := omega) only [upd_app, ↓reduceIte, if_neg, if_pos, hz1], by simp (disch := omega) only [upd_app, ↓reduceIte, if_neg, if_pos], fun _ => ⟨by simp (disch := omega) only [upd_app, ↓reduceIte, if_neg, if_pos], by omega, by simp only; omega⟩, by simp only; omega, by omega, by simp, hqm2⟩ (by simp only; omega)
                    · obtain ⟨ho, ho1, ho2⟩ := hmo (by omega)
                      simp only [hi0, if_false] at hm3
                      have p1 : (o = 3) = False := by simp; omega
                      have p2 : (3 = o) = False := by simp; omega
                      have p3 : (o = 2) = False := by simp; omega
                      have p4 : (2 = o) = False := by simp; omega
                      have hol : (rwI qs).length = i := by rw [rwI_len, hql]
                      simp (disch := omega) only [go_sem, Nat.reduceEqDiff, Nat.reduceBEq, ↓reduceIte, reduceCtorEq, ↓k_appE, g1, g2, g4, g9, g10, g67, g68, g69, hm0, hm1, hm2, hm3, m0, m1, m2, m3, m0', m1', m2', m3', hrl, rtx, rowsT_len, wR, wN, wT, wC, hw1, hdt, hqn, reach, List.length_cons, List.length_nil, ho, hol, hsn, p1, p2]
                      (repeat (with_reducible refine Or.inr ?_))
                      refine callW_I (i_leave (id := 3) (o := o) (n := i + 1) (i := i) (av := lI 700 a) (sv := lI 700 s) (rs := qs ++ [q]) (r := q) (e := false) (by simp (disch := omega) only [upd_app, ↓reduceIte, if_neg, if_pos]) (by omega) (by simp (disch := omega) only [upd_app, ↓reduceIte, if_neg, if_pos]) (by omega) hln2 hat (by omega)) (by kernel_rfl) (.inr ⟨rfl, rfl⟩) ?_
                      rw [hlvq]
                      simp (disch := omega) only [go_sem, Nat.reduceEqDiff, Nat.reduceBEq, ↓reduceIte, reduceCtorEq, ↓k_appE, g1, g2, g4, g9, g10, g67, g68, g69, hm0, hm1, hm2, hm3, m0, m1, m2, m3, m0', m1', m2', m3', hrl, rtx, rowsT_len, hl2, hsl2, reach, List.length_cons, List.length_nil, p1, p2, p3, p4]
                      exact keyJ o _ ⟨(by simp [upd_app, g1] <;> omega), (by simp [upd_app, g2] <;> omega), (by simp [upd_app, g4] <;> omega), (by simp [upd_app, g9] <;> omega), (by simp [upd_app] <;> omega), (by simp [upd_app, g67] <;> omega), (by simp [upd_app, g68] <;> omega), (by simp [upd_app] <;> omega), by simp (disch := omega) only [upd_app, ↓reduceIte, if_neg, if_pos, hm0], by simp (disch := omega) only [upd_app, ↓reduceIte, if_neg, if_pos, hm1], by simp (disch := omega) only [upd_app, ↓reduceIte, if_neg, if_pos, hz1], by simp (disch := omega) only [upd_app, ↓reduceIte, if_neg, if_pos], fun _ => ⟨by simp (disch := omega) only [upd_app, ↓reduceIte, if_neg, if_pos], by omega, by simp only; omega⟩, by simp only; omega, by omega, by simp; omega, hqm2⟩ (by simp only; omega)
              · have hQ := hbadrow (by unfold rowQ; rw [hlr]; simp only; rw [if_neg (fun h => hqn h.1)])
                simp (disch := omega) only [go_sem, Nat.reduceEqDiff, Nat.reduceBEq, ↓reduceIte, reduceCtorEq, ↓k_appE, g1, g2, g4, g9, g10, g67, g68, g69, hm0, hm1, hm2, hm3, m0, m1, m2, m3, m0', m1', m2', m3', hrl, rtx, rowsT_len, wR, hqn]
                (repeat (with_reducible refine Or.inr ?_))
                rw [← hQ]
                exact post_cellS (id := 1) (x := .agg [.nil, .nil, .nil]) (ids := []) (.inl rfl) rfl o_nN (by simp [upd_app] <;> omega) (by simp [upd_app] <;> omega) (by simp (disch := omega) only [upd_app, ↓reduceIte, if_neg, if_pos, hm1]) (by simp (disch := omega) only [upd_app, ↓reduceIte, if_neg, if_pos, hm1]) ld_nN (snapA_pure rfl) (by simp)
          · obtain rfl : i = kr := by omega
            obtain ⟨ho, ho1, ho2⟩ := hmo (by omega)
            rw [if_neg (by omega)] at hm3
            have hz0 : (i == 0) = false := by simp; omega
            rw [hz0] at hm2
            rw [List.take_of_length_le (by omega)] at hqm
            rw [hqm] at hQ
            simp only at hQ
            have hrn : ∀ (j : Nat) (r : List Rat), qs[j]? = some r → r.length = i ∧ nonneg r = true := fun j r hj => mapMo_all (P := fun r => r.length = i ∧ nonneg r = true) (fun x y h => ⟨(rowQ_some h).2.1, (rowQ_some h).2.2.1⟩) hqm r (List.mem_of_getElem? hj)
            have hlv : ∀ (j : Nat) (r : List Rat), qs[j]? = some r → (qs.map fun r => 1 - sumL r)[j]? = some (1 - sumL r) ∧ ¬ 1 < sumL r := fun j r hj => ⟨by simp [hj], mapMo_all (P := fun r => ¬ 1 < sumL r) (fun x y h => (rowQ_some h).2.2.2) hqm r (List.mem_of_getElem? hj)⟩
            have hE := fun (fr : Nat → AV) (h : Nat → Blk) (nx' : Nat) (h1 : h o = _) (h2 : h 2 = _) (h3 : o < nx') (h4 : 2 < nx') => i_toEnd (fr := fr) (h := h) (nx := nx') (o := o) (l := 2) (n := i) (M := lvM i) (rs := qs) (ls := qs.map fun r => 1 - sumL r) (e1 := false) (e2 := false) h1 h3 h2 h4 hql (by rw [List.length_map, hql]) hrn hlv (by omega) (by unfold lvM; omega)
            have hC := c_hasF (bs := mapB i (eAll (lvL qs) (nzL qs) i i)) (by rw [mapB_len]; omega)
            rw [mapB_all] at hC
            have hen : ((List.range i).all (eAll (lvL qs) (nzL qs) i i)) = endsB (lvL qs) (nzL qs) i := rfl
            rw [hen] at hC
            have hCW := cw (by kernel_rfl) (by simp [AV.pure, AV.pureL]) (by simp [AV.pure, AV.pureL]) hC
            have hnn : (!(!(endsB (lvL qs) (nzL qs) i))) = endsB (lvL qs) (nzL qs) i := Bool.not_not _
            generalize mapB i (eAll (lvL qs) (nzL qs) i i) = bs at *
            generalize endsB (lvL qs) (nzL qs) i = eb at *
            simp (disch := omega) only [go_sem, Nat.reduceEqDiff, Nat.reduceBEq, ↓reduceIte, reduceCtorEq, ↓k_appE, g1, g2, g4, g9, g10, g67, g68, g69, hm0, hm1, hm2, hm3]
            refine callW_I (hE _ _ _ ho hm2 (by omega) (by omega)) (by kernel_rfl) (.inr ⟨rfl, rfl⟩) ?_
            simp (disch := omega) only [go_sem, Nat.reduceEqDiff, Nat.reduceBEq, ↓reduceIte, reduceCtorEq, ↓k_appE, g1, g2, g4, g9, g10, g67, g68, g69, hm0, hm1, hm2, hm3, hCW, hnn]
            (repeat (with_reducible refine Or.inr ?_))
            refine ⟨⟨hE _ _ _ (by simp (disch := omega) only [upd_app, if_neg, ho]) (by simp (disch := omega) only [upd_app, if_neg, hm2]) (by omega) (by omega), hC.inOk (by simp [AV.pure, AV.pureL]) rfl⟩, ?_⟩
            rw [← hQ]
            exact post_cellS (id := 1) (x := .agg [lI 700 a, lI 700 s, .ref o i 0 i]) (ids := [o]) (.inl rfl) rfl o_nN (by simp [upd_app] <;> omega) (by simp [upd_app] <;> omega) (by simp [upd_app]) (by simp [upd_app]) ld_nN (snap3 (e := false) (g := true) (by simp [AV.pure, AV.pureL]) (by simp [AV.pure, AV.pureL]) (by simp (disch := omega) only [upd_app, if_neg, ho]) (by rw [rwI_len, hql]) rwI_pure) (fun _ _ => Nat.zero_le _)
        · have hna' : (a.all fun q => !decide (q < 0)) = false := by simpa [nonneg] using hna
          rw [hna', Bool.not_false] at wP
          simp only [if_neg hna]
          (refine callOk_of_wpcD (W := ⟨fun _ => false, fun r => if r = 18 then some [(0, 0), (2, 7), (4, 7), (5, 7)] else none⟩) false hm' Tryz.func14 rfl (by kernel_rfl) (Nat.le_of_ble_eq_true rfl) (go_start ?_); generalize hQ : Post Tryz.prog Tryz.f14 _ _ _ _ _ = Q; simp only [stIn, matL, matA, st00])
          simp (disch := omega) only [go_sem, Nat.reduceEqDiff, Nat.reduceBEq, ↓reduceIte, reduceCtorEq, ↓k_appE, strA_length, hk, hka, hkr, rowsT_len, wA, wS, wP]
          (repeat (with_reducible refine Or.inr ?_))
          rw [← hQ]
          exact post_cellS (id := 1) (x := .agg [.nil, .nil, .nil]) (ids := []) (.inl rfl) rfl o_nN (by simp [upd_app] <;> omega) (by simp [upd_app] <;> omega) (by simp [upd_app]) (by simp [upd_app]) ld_nN (snapA_pure rfl) (by simp)
  · rw [netQ, if_neg hnet]
    unfold netOk at hnet
    rw [hk, hka, hkr] at hnet
    by_cases q1 : ka < 1
    · (refine callOk_of_wpcD (W := ⟨fun _ => false, fun r => if r = 18 then some [(0, 0), (2, 7), (4, 7), (5, 7)] else none⟩) false hm' Tryz.func14 rfl (by kernel_rfl) (Nat.le_of_ble_eq_true rfl) (go_start ?_); generalize hQ : Post Tryz.prog Tryz.f14 _ _ _ _ _ = Q; simp only [stIn, matL, matA, st00])
      simp (disch := omega) only [go_sem, Nat.reduceEqDiff, Nat.reduceBEq, ↓reduceIte, reduceCtorEq, ↓k_appE, strA_length, hk, hka, hkr, rowsT_len]
      (repeat (with_reducible refine Or.inr ?_))
      rw [← hQ]
      exact post_cellS (id := 1) (x := .agg [.nil, .nil, .nil]) (ids := []) (.inl rfl) rfl o_nN (by simp [upd_app] <;> omega) (by simp [upd_app] <;> omega) (by simp [upd_app]) (by simp [upd_app]) ld_nN (snapA_pure rfl) (by simp)
    by_cases q2 : 6 < ka
    · (refine callOk_of_wpcD (W := ⟨fun _ => false, fun r => if r = 18 then some [(0, 0), (2, 7), (4, 7), (5, 7)] else none⟩) false hm' Tryz.func14 rfl (by kernel_rfl) (Nat.le_of_ble_eq_true rfl) (go_start ?_); generalize hQ : Post Tryz.prog Tryz.f14 _ _ _ _ _ = Q; simp only [stIn, matL, matA, st00])
      simp (disch := omega) only [go_sem, Nat.reduceEqDiff, Nat.reduceBEq, ↓reduceIte, reduceCtorEq, ↓k_appE, strA_length, hk, hka, hkr, rowsT_len]
      (repeat (with_reducible refine Or.inr ?_))
      rw [← hQ]
      exact post_cellS (id := 1) (x := .agg [.nil, .nil, .nil]) (ids := []) (.inl rfl) rfl o_nN (by simp [upd_app] <;> omega) (by simp [upd_app] <;> omega) (by simp [upd_app]) (by simp [upd_app]) ld_nN (snapA_pure rfl) (by simp)
    by_cases q3 : k = ka
    · (refine callOk_of_wpcD (W := ⟨fun _ => false, fun r => if r = 18 then some [(0, 0), (2, 7), (4, 7), (5, 7)] else none⟩) false hm' Tryz.func14 rfl (by kernel_rfl) (Nat.le_of_ble_eq_true rfl) (go_start ?_); generalize hQ : Post Tryz.prog Tryz.f14 _ _ _ _ _ = Q; simp only [stIn, matL, matA, st00])
      simp (disch := omega) only [go_sem, Nat.reduceEqDiff, Nat.reduceBEq, ↓reduceIte, reduceCtorEq, ↓k_appE, strA_length, hk, hka, hkr, rowsT_len]
      (repeat (with_reducible refine Or.inr ?_))
      rw [← hQ]
      exact post_cellS (id := 1) (x := .agg [.nil, .nil, .nil]) (ids := []) (.inl rfl) rfl o_nN (by simp [upd_app] <;> omega) (by simp [upd_app] <;> omega) (by simp [upd_app]) (by simp [upd_app]) ld_nN (snapA_pure rfl) (by simp)
    · (refine callOk_of_wpcD (W := ⟨fun _ => false, fun r => if r = 18 then some [(0, 0), (2, 7), (4, 7), (5, 7)] else none⟩) false hm' Tryz.func14 rfl (by kernel_rfl) (Nat.le_of_ble_eq_true rfl) (go_start ?_); generalize hQ : Post Tryz.prog Tryz.f14 _ _ _ _ _ = Q; simp only [stIn, matL, matA, st00])
      simp (disch := omega) only [go_sem, Nat.reduceEqDiff, Nat.reduceBEq, ↓reduceIte, reduceCtorEq, ↓k_appE, strA_length, hk, hka, hkr, rowsT_len]
      (repeat (with_reducible refine Or.inr ?_))
      rw [← hQ]
      exact post_cellS (id := 1) (x := .agg [.nil, .nil, .nil]) (ids := []) (.inl rfl) rfl o_nN (by simp [upd_app] <;> omega) (by simp [upd_app] <;> omega) (by simp [upd_app]) (by simp [upd_app]) ld_nN (snapA_pure rfl) (by simp)
def validN (m : Ntw) : Bool := match netQ m with
 | some x => endsB (lvL x.rts) (nzL x.rts) m.srv.length
 | none => false
theorem s_ValidNetwork {m : Ntw} (hs : m.small) (hp : AV.pureL (rowsT m.rts) = true) : CallOk Tryz.prog 5 [m.av] (.bool (validN m)) [] := by
 have hq := fun (fr : Nat → AV) h nx hb hid => i_l07Parse (fr := fr) (h := h) (nx := nx) (id := 0) (m := m) hs hb hid
 unfold netS at hq
 unfold validN
 cases hn : netQ m with
 | none =>
  rw [hn] at hq
  (refine callOk_of_wpc (W := fun _ => false) false hm' Tryz.func5 rfl (by kernel_rfl) (Nat.le_of_ble_eq_true rfl) (go_start ?_); generalize hQ : Post Tryz.prog Tryz.f5 _ _ _ _ _ = Q; simp only [stIn, matL, matA, st00])
  simp (disch := omega) only [go_sem, Nat.reduceEqDiff, Nat.reduceBEq, ↓reduceIte, reduceCtorEq]
  refine callW_I (hq _ _ _ (by simp [upd_app]; rfl) (by omega)) (by kernel_rfl) (.inr ⟨rfl, rfl⟩) ?_
  simp (disch := omega) only [go_sem, Nat.reduceEqDiff, Nat.reduceBEq, ↓reduceIte, reduceCtorEq]
  rw [← hQ]
  exact post_one (.inl rfl) rfl (by simp [upd_app] <;> omega) rfl
 | some x =>
  rw [hn] at hq
  (refine callOk_of_wpc (W := fun _ => false) false hm' Tryz.func5 rfl (by kernel_rfl) (Nat.le_of_ble_eq_true rfl) (go_start ?_); generalize hQ : Post Tryz.prog Tryz.f5 _ _ _ _ _ = Q; simp only [stIn, matL, matA, st00])
  simp (disch := omega) only [go_sem, Nat.reduceEqDiff, Nat.reduceBEq, ↓reduceIte, reduceCtorEq]
  refine callW_I (hq _ _ _ (by simp [upd_app]; rfl) (by omega)) (by kernel_rfl) (.inr ⟨rfl, rfl⟩) ?_
  simp (disch := omega) only [go_sem, Nat.reduceEqDiff, Nat.reduceBEq, ↓reduceIte, reduceCtorEq]
  rw [← hQ]
  exact post_one (.inl rfl) rfl (by simp [upd_app] <;> omega) rfl
theorem netI_pure {m : Ntw} : (netI m).pure = true := by
 unfold netI
 cases netQ m with
 | none => rfl
 | some x => simp [AV.pure, AV.pureL, rwI_pure]
theorem w_networkOf {m : Ntw} (hs : m.small) : CW Tryz.prog 14 [m.av] (netI m) := cw (by kernel_rfl) (by simp [AV.pure, AV.pureL, strA_pure, rowsT_pure]) netI_pure (c_networkOf hs rowsT_pure)
theorem i_ValidNetwork {m : Ntw} (hs : m.small) : CallOk Tryz.prog 7 [m.av] (.bool (validN m)) [] := by
 have hw := w_networkOf hs
 unfold netI at hw
 unfold validN
 cases hn : netQ m with
 | none =>
  rw [hn] at hw
  (refine callOk_of_wpc (W := fun _ => false) false hm' Tryz.func7 rfl (by kernel_rfl) (Nat.le_of_ble_eq_true rfl) (go_start ?_); generalize hQ : Post Tryz.prog Tryz.f7 _ _ _ _ _ = Q; simp only [stIn, matL, matA, st00])
  simp (disch := omega) only [go_sem, Nat.reduceEqDiff, Nat.reduceBEq, ↓reduceIte, reduceCtorEq, hw]
  (repeat (with_reducible refine Or.inr ?_))
  rw [← hQ]
  exact post_one (.inl rfl) rfl (by simp [upd_app] <;> omega) rfl
 | some x =>
  rw [hn] at hw
  (refine callOk_of_wpc (W := fun _ => false) false hm' Tryz.func7 rfl (by kernel_rfl) (Nat.le_of_ble_eq_true rfl) (go_start ?_); generalize hQ : Post Tryz.prog Tryz.f7 _ _ _ _ _ = Q; simp only [stIn, matL, matA, st00])
  simp (disch := omega) only [go_sem, Nat.reduceEqDiff, Nat.reduceBEq, ↓reduceIte, reduceCtorEq, hw]
  (repeat (with_reducible refine Or.inr ?_))
  rw [← hQ]
  exact post_one (.inl rfl) rfl (by simp [upd_app] <;> omega) rfl
attribute [go_sem] w_networkOf
section
open Go Go.ChangeShapes Go.WideShapes Go.ChangeAt Go.RowKit
inductive Cl where
 | bool
 | int (k : IntKind)
 | str
 | sl (e : Nat) (c : Cl)
def Cl.fit (P : Program) : Cl → TypeId → Prop
 | .bool, t => P.underlying t = some .bool
 | .int k, t => P.underlying t = some (.int k)
 | .str, t => P.underlying t = some .string
 | .sl e c, t => P.underlying t = some (.slice e) ∧ P.cellsOf e = 1 ∧ szT P e = 1 ∧ 0 < P.bytesOf e ∧ c.fit P e
def isC : Cl → AV → Prop
 | .bool, x => ∃ b, x = .bool b
 | .int k, x => ∃ n, x = .int k n ∧ (Lit.int k n).wf = true
 | .str, x => ∃ s, x = .str s ∧ s.length < 4611686018427387904
 | .sl e c, x => ∃ xs, x = .sl e xs [] false ∧ xs.length < 4611686018427387904 ∧ ∀ y ∈ xs, isC c y
def isCL : List Cl → List AV → Prop
 | [], xs => xs = []
 | c :: cs, xs => ∃ x r, xs = x :: r ∧ isC c x ∧ isCL cs r
inductive Ty where
 | cell (c : Cl)
 | st (cs : List Cl)
def isT : Ty → AV → Prop
 | .cell c, x => isC c x
 | .st cs, x => ∃ xs, x = .agg xs ∧ isCL cs xs
def isTL : List Ty → List AV → Prop
 | [], xs => xs = []
 | c :: cs, xs => ∃ x r, xs = x :: r ∧ isT c x ∧ isTL cs r
def stFit (P : Program) : Nat → List Field → List Cl → Prop
 | _, [], [] => True
 | j, f :: fs, c :: cs => f.offset = j ∧ P.cellsOf f.type = 1 ∧ c.fit P f.type ∧ stFit P (j + 1) fs cs
 | _, _, _ => False
def Ty.fit (P : Program) : Ty → TypeId → Prop
 | .cell c, t => c.fit P t
 | .st cs, t => ∃ fs, P.underlying t = some (.struct fs) ∧ P.cellsOf t = fs.size ∧ stFit P 0 fs.toList cs
def tysFit (P : Program) : List Ty → List TypeId → Prop
 | [], [] => True
 | y :: ys, t :: ts => y.fit P t ∧ tysFit P ys ts
 | _, _ => False
theorem isC_one {c : Cl} {x : AV} (h : isC c x) : x.pure = true ∧ x.one = true ∧ x.cells = [x] := by
 induction c generalizing x with
 | bool => obtain ⟨b, rfl⟩ := h; exact ⟨rfl, rfl, rfl⟩
 | int k => obtain ⟨b, rfl, _⟩ := h; exact ⟨rfl, rfl, rfl⟩
 | str => obtain ⟨b, rfl, _⟩ := h; exact ⟨rfl, rfl, rfl⟩
 | sl e c ih =>
  obtain ⟨xs, rfl, hlen, h⟩ := h
  refine ⟨?_, rfl, rfl⟩
  simp only [AV.pure, AV.pureL, Bool.and_true]
  clear hlen
  induction xs with
  | nil => rfl
  | cons y ys ih' => simp only [AV.pureL, Bool.and_eq_true]; exact ⟨(ih (h y (by simp))).1, ih' fun z hz => h z (by simp [hz])⟩
theorem isCL_pure : ∀ {cs : List Cl} {xs : List AV}, isCL cs xs → AV.pureL xs = true
 | [], xs, h => by simp only [isCL] at h; subst h; rfl
 | c :: cs, xs, h => by
  obtain ⟨x, r, rfl, h1, h2⟩ := h
  simp only [AV.pureL, Bool.and_eq_true]; exact ⟨(isC_one h1).1, isCL_pure h2⟩
theorem isT_pure {y : Ty} {x : AV} (h : isT y x) : x.pure = true := by
 cases y with
 | cell c => exact (isC_one h).1
 | st cs => obtain ⟨xs, rfl, h⟩ := h; simp only [AV.pure]; exact isCL_pure h
theorem pick {Q : Nat → Value → AV → Prop} {n : Nat} (h : ∀ i, i < n → ∃ v x, Q i v x) : ∃ (vs : List Value) (xs : List AV), vs.length = n ∧ xs.length = n ∧ ∀ i v x, vs[i]? = some v → xs[i]? = some x → Q i v x := by
  induction n with
  | zero => exact ⟨[], [], rfl, rfl, fun i v x hv => by simp at hv⟩
  | succ n ih =>
    obtain ⟨vs, xs, h1, h2, h3⟩ := ih fun i hi => h i (by omega)
    obtain ⟨v, x, hq⟩ := h n (by omega)
    refine ⟨vs ++ [v], xs ++ [x], by simp [h1], by simp [h2], fun i v' x' hv hx => ?_⟩
    by_cases hi : i < n
    · rw [List.getElem?_append_left (by omega)] at hv hx
      exact h3 i v' x' hv hx
    · have hi' : i = n := by
        have := (List.getElem?_eq_some_iff.1 hv).1
        simp at this
        omega
      subst hi'
      rw [List.getElem?_append_right (by omega), h1, Nat.sub_self] at hv
      rw [List.getElem?_append_right (by omega), h2, Nat.sub_self] at hx
      simp only [List.getElem?_cons_zero, Option.some.injEq] at hv hx
      subst hv; subst hx
      exact hq
theorem blk_of {w : World} {a : Addr} {n : Nat} {vs : List Value} (hn : vs.length = n) (h0 : n ≠ 0) (hc : ∀ i v, vs[i]? = some v → w.cell? (a.add i) = some v) :
    a.spot = none ∧ ∃ c e f, w.heap[a.block]? = some (.cells c e f) ∧ ∀ i v, vs[i]? = some v → c[a.off + i]? = some v := by
  obtain ⟨v0, hv0⟩ : ∃ v, vs[0]? = some v := ⟨vs[0]'(by omega), by simp [List.getElem?_eq_getElem (show 0 < vs.length by omega)]⟩
  have h0 := hc 0 v0 hv0
  simp only [Addr.add, ↓reduceIte, World.cell?] at h0
  split at h0
  · rename_i c e f hb
    split at h0
    · cases h0
    · rename_i hs
      refine ⟨by simpa using hs, c, e, f, hb, fun i v hi => ?_⟩
      by_cases hi0 : i = 0
      · subst hi0
        rw [hv0] at hi; cases hi
        simpa using h0
      · have := hc i v hi
        simp only [Addr.add, if_neg hi0, World.cell?, hb] at this
        simpa using this
  · cases h0
section
variable {H : Type} {enc : TypeId × Value → H} {P : Program} {W : World} {R : Nat → Prop}
theorem open_cell : ∀ (c : Cl) {t : TypeId} {fuel : Nat} {cs : List Value} {d : DataW H} {ps : List MemPlace}, c.fit P t → DataW.trod enc P W 0 (fun _ => true) true fuel t cs = some (d, ps) →
    (∀ n ∈ d.weights P t, n ≤ reachBytes) → (∀ p ∈ ps, R p.block) → ∃ v x, cs = [v] ∧ isC c x ∧ rep P (bare W R) x v ∧ v.cells = #[v]
  | .bool, t, fuel, cs, d, ps, hf, h, hw, hp => by
    obtain ⟨b, rfl, _⟩ := DataW.trod_bool hf h
    exact ⟨_, .bool b, rfl, ⟨b, rfl⟩, by simp [rep], rfl⟩
  | .int k, t, fuel, cs, d, ps, hf, h, hw, hp => by
    obtain ⟨n, rfl, _, h1⟩ := DataW.trod_int hf h
    exact ⟨_, .int k n, rfl, ⟨n, rfl, h1⟩, by simp [rep], rfl⟩
  | .str, t, fuel, cs, d, ps, hf, h, hw, hp => by
    obtain ⟨s, rfl, hx, _⟩ := DataW.trod_string hf h
    simp only [Prod.mk.injEq] at hx
    obtain ⟨rfl, _⟩ := hx
    have := hw s.data.toList.length (by simp [DataW.weights])
    have hr : reachBytes = 140737488351232 := rfl
    exact ⟨_, .str s.data.toList, rfl, ⟨_, rfl, by omega⟩, by simp [rep], rfl⟩
  | .sl e c, t, fuel, cs, d, ps, hf, h, hw, hp => by
    obtain ⟨f1, f2, f3, f4, f5⟩ := hf
    rcases DataW.trod_slice f1 h with ⟨rfl, hx⟩ | ⟨a, len, cap, elems, rest, n, _, rfl, hx, hb, hl, hm, hlen, hel, hsp, _⟩
    · refine ⟨_, .sl e [] [] false, rfl, ⟨[], rfl, by simp, by simp⟩, ?_, rfl⟩
      simp only [rep]
      exact ⟨none, 0, rfl, by simp, by simp, by simp, [], [], rfl, rfl, by simp⟩
    simp only [Prod.mk.injEq] at hx
    obtain ⟨rfl, rfl⟩ := hx
    obtain ⟨hrl, _⟩ := hsp rfl
    rw [f2] at hel hp
    simp only [Nat.mul_one] at hel hp
    have hw1 : len * P.bytesOf e ≤ reachBytes := by
      have := hw ((elems.length + rest.length) * P.bytesOf e) (by simp [DataW.weights, f1])
      exact Nat.le_trans (Nat.mul_le_mul_right _ (by omega)) this
    have hlen' : len < 4611686018427387904 := by
      have hr : reachBytes = 140737488351232 := rfl
      have := Nat.le_mul_of_pos_right len f4
      omega
    have hblk : len ≠ 0 → R a.block := fun hne => hp (.cell a.block (a.off + 0)) (by
      simp only [List.mem_append, MemPlace.row, List.mem_map, List.mem_range]
      exact .inl ⟨0, by omega, rfl⟩)
    have each : ∀ i, i < len → ∃ v x, W.cell? (a.add i) = some v ∧ isC c x ∧ rep P (bare W R) x v ∧ v.cells = #[v] := by
      intro i hi
      have hy := hel i hi
      obtain ⟨y, hy'⟩ : ∃ y, elems[i]? = some y := ⟨elems[i]'(by omega), by simp [List.getElem?_eq_getElem (show i < elems.length by omega)]⟩
      rw [hy', Option.bind_eq_some_iff] at hy
      obtain ⟨cs', hcs, hz⟩ := hy
      have hmem : y ∈ elems := List.mem_of_getElem? hy'
      obtain ⟨v, x, rfl, h2, h3, h4⟩ := open_cell c f5 hz (fun n hn => hw n (by
        simp only [DataW.weights, f1, List.mem_cons, List.mem_append]
        exact .inr (.inl (mem_all hmem hn)))) (fun p hp' => hp p (by
        simp only [List.mem_append, List.mem_flatMap]
        exact .inr ⟨y, .inl hmem, hp'⟩))
      exact ⟨v, x, cell_of_cells?_one hcs, h2, h3, h4⟩
    obtain ⟨vs, xs, k1, k2, k3⟩ := pick each
    have hx : ∀ y ∈ xs, isC c y := by
      intro y hy
      obtain ⟨i, hi⟩ := List.getElem?_of_mem hy
      have hlt : i < vs.length := by have := (List.getElem?_eq_some_iff.1 hi).1; omega
      exact (k3 i vs[i] y (List.getElem?_eq_getElem hlt) hi).2.1
    have hv : ∀ (i : Nat) (v : Value), vs[i]? = some v → W.cell? (a.add i) = some v ∧ v.cells = #[v] := by
      intro i v hi
      have hlt : i < xs.length := by have := (List.getElem?_eq_some_iff.1 hi).1; omega
      have := k3 i v xs[i] hi (List.getElem?_eq_getElem hlt)
      exact ⟨this.1, this.2.2.2⟩
    refine ⟨_, .sl e xs [] false, rfl, ⟨xs, rfl, by omega, hx⟩, ?_, rfl⟩
    simp only [rep]
    refine ⟨some a, cap, by rw [k2], by simpa [k2] using hl, by simp, ?_, vs, [], repL_mk (k1.trans k2.symm) fun i x v h1 h2 => (k3 i v x h2 h1).2.2.1, by simp [repL], fun hne => ?_⟩
    · intro y hy
      rw [List.append_nil] at hy
      have := isC_one (hx y hy)
      simp [AV.el, this.2.1, this.2.2, f3]
    · have hne' : len ≠ 0 := by rw [k2] at hne; simpa using hne
      obtain ⟨hs, cc, ee, ff, hh, hc⟩ := blk_of k1 hne' fun i v hi => (hv i v hi).1
      refine ⟨a.block, a.off, cc, (ee, ff), by cases a; simp_all, hblk hne', hh, fun i v hi => ?_⟩
      rw [List.append_nil] at hi
      rw [(hv i v hi).2, f3]
      refine ⟨by simp, fun j u hj => ?_⟩
      have hj0 : j = 0 ∧ u = v := by cases j <;> simp_all
      obtain ⟨rfl, rfl⟩ := hj0
      simpa using hc i u hi
where
  mem_all {e : TypeId} {y : DataW H × List MemPlace} {n : Nat} : ∀ {elems : List (DataW H × List MemPlace)}, y ∈ elems → n ∈ y.1.weights P e → n ∈ DataW.weightsAll P e (elems.map (·.1))
    | z :: elems, hm, hn => by
      simp only [List.map_cons, DataW.weightsAll, List.mem_append]
      rcases List.mem_cons.1 hm with rfl | hm
      · exact .inl hn
      · exact .inr (mem_all hm hn)
theorem open_fields {n : Nat} {vs : List Value} : ∀ (cs : List Cl) (fs : List Field) (j : Nat) (xs : List (DataW H × List MemPlace)), stFit P j fs cs → vs.length = j + fs.length → xs.length = fs.length →
    (∀ (i : Nat) (f : Field), fs[i]? = some f → DataW.trod enc P W 0 (fun _ => true) true n f.type ((vs.drop f.offset).take (P.cellsOf f.type)) = xs[i]?) →
    (∀ n ∈ DataW.weightsEach P (fs.map (·.type)) (xs.map (·.1)), n ≤ reachBytes) → (∀ p ∈ xs.flatMap (·.2), R p.block) → ∃ avs, isCL cs avs ∧ repL P (bare W R) avs (vs.drop j)
  | [], [], j, xs, _, hl, _, _, _, _ => ⟨[], rfl, by
      have hl : vs.length = j := by simpa using hl
      simp [repL, ← hl]⟩
  | c :: cs, f :: fs, j, y :: xs, ⟨h1, h2, h3, h4⟩, hl, hx, ht, hw, hp => by
    have h0 := ht 0 f rfl
    simp only [List.length_cons] at hl hx
    rw [h1, h2, List.getElem?_cons_zero] at h0
    obtain ⟨v, x, k1, k2, k3, k4⟩ := open_cell (R := R) c h3 h0 (fun n hn => hw n (by simp [DataW.weightsEach, hn])) (fun p hp' => hp p (by simp [hp']))
    have hx' : xs.length = fs.length := by omega
    obtain ⟨avs, q1, q2⟩ := open_fields (vs := vs) cs fs (j + 1) xs h4 (by omega) hx' (fun i f' hi => by simpa using ht (i + 1) f' (by simpa using hi)) (fun n hn => hw n (by simp [DataW.weightsEach, hn])) (fun p hp' => hp p (by
      simp only [List.flatMap_cons, List.mem_append]; exact .inr hp'))
    have hd : vs.drop j = v :: vs.drop (j + 1) := by
      have hj : j < vs.length := by omega
      rw [List.drop_eq_getElem_cons hj] at k1 ⊢
      simp only [List.take_succ_cons, List.take_zero, List.cons.injEq, and_true] at k1
      rw [k1]
    refine ⟨x :: avs, ⟨x, avs, rfl, k2, q1⟩, ?_⟩
    rw [hd]
    exact ⟨v, _, rfl, k3, q2⟩
  | [], _ :: _, _, _, h, _, _, _, _, _ => by simp [stFit] at h
  | _ :: _, [], _, _, h, _, _, _, _, _ => by simp [stFit] at h
  | _ :: _, _ :: _, _, [], _, _, h, _, _, _ => by simp at h
theorem one_okWide {c : Cl} {t : TypeId} {base : Nat} {v : Value} (hf : c.fit P t) (h : Value.okWide P W .any base t v) : v.cells = #[v] := by
 cases c with
 | bool => obtain ⟨b, rfl⟩ := okWide_bool hf h; rfl
 | int k => obtain ⟨b, rfl⟩ := okWide_int hf h; rfl
 | str => obtain ⟨b, rfl⟩ := okWide_string hf h; rfl
 | sl e c => obtain ⟨a, b, d, rfl⟩ := okWide_slice hf.1 h; rfl
theorem open_type {y : Ty} {t : TypeId} {base : Nat} {v : Value} {d : DataW H} {ps : List MemPlace} (hf : y.fit P t) (hok : Value.okWide P W .any base t v) (h : DataW.Trod enc P W 0 (fun _ => true) true t v d ps)
  (hw : ∀ n ∈ d.weights P t, n ≤ reachBytes) (hp : ∀ p ∈ ps, R p.block) : ∃ x, isT y x ∧ rep P (bare W R) x v := by
 obtain ⟨fuel, h⟩ := h
 cases y with
 | cell c =>
  obtain ⟨u, x, k1, k2, k3, k4⟩ := open_cell c hf h hw hp
  rw [one_okWide hf hok] at k1
  simp only [List.cons.injEq, and_true] at k1
  subst k1
  exact ⟨x, k2, k3⟩
 | st cs =>
  obtain ⟨fs, f1, f2, f3⟩ := hf
  obtain ⟨xs, n, _, hx, hl, hlen, hfd⟩ := DataW.trod_struct f1 h
  simp only [Prod.mk.injEq] at hx
  obtain ⟨rfl, rfl⟩ := hx
  simp only [Value.okWide, f1] at hok
  obtain ⟨vs, rfl, _, _⟩ := hok
  obtain ⟨avs, k1, k2⟩ := open_fields (R := R) (vs := vs.toList) cs fs.toList 0 xs f3 (by rw [f2] at hl; simpa [Value.cells] using hl) (by simpa using hlen) (fun i f hi => hfd i f (by simpa using hi)) (by simpa [DataW.weights, f1] using hw) hp
  exact ⟨.agg avs, ⟨avs, rfl, k1⟩, by simp only [rep]; exact ⟨vs.toList, by simp, by simpa using k2⟩⟩
theorem open_all {base : Nat} : ∀ {ys : List Ty} {ts : List TypeId} {vs : List Value} {ds : List (DataW H)} {ps : List MemPlace}, tysFit P ys ts → DataW.TrodAll enc P W 0 (fun _ => true) true ts vs ds ps →
  (∀ (j : Nat) t v, ts[j]? = some t → vs[j]? = some v → Value.okWide P W .any base t v) → (∀ n ∈ DataW.weightsEach P ts ds, n ≤ reachBytes) → (∀ p ∈ ps, R p.block) →
  ∃ xs, isTL ys xs ∧ ownRL P (bare W R) xs vs []
 | [], [], vs, ds, ps, _, h, _, _, _ => by
  obtain ⟨rfl, rfl, rfl⟩ := trodAll_nil h
  exact ⟨[], rfl, by simp [ownRL]⟩
 | y :: ys, t :: ts, vs, ds, ps, ⟨f1, f2⟩, h, hok, hw, hp => by
  obtain ⟨v, vs', d, ds', p, q, rfl, rfl, rfl, h1, h2⟩ := trodAll_cons h
  obtain ⟨x, k1, k2⟩ := open_type (R := R) f1 (hok 0 t v rfl rfl) h1 (fun n hn => hw n (by simp [DataW.weightsEach, hn])) (fun p hp' => hp p (by simp [hp']))
  obtain ⟨xs, k3, k4⟩ := open_all f2 h2 (fun j t v ht hv => hok (j + 1) t v (by simpa using ht) (by simpa using hv)) (fun n hn => hw n (by simp [DataW.weightsEach, hn])) (fun p hp' => hp p (by simp [hp']))
  refine ⟨x :: xs, ⟨x, xs, rfl, k1, k3⟩, ?_⟩
  simp only [ownRL]
  exact ⟨v, vs', [], [], rfl, rfl, ownR_of_pure x v (isT_pure k1) k2, k4⟩
 | [], _ :: _, _, _, _, h, _, _, _, _ => by simp [tysFit] at h
 | _ :: _, [], _, _, _, h, _, _, _, _ => by simp [tysFit] at h
def LawOk (P : Program) (f : FuncId) (ys : List Ty) : Prop := ∀ xs, isTL ys xs → CallOk P f xs (.bool true) []
theorem tab_lt {k : IntKind} {zs : List Int} {g : Nat} (h : Lib.TabIs P W tabName k zs) (hg : P.globalNamed tabName = some g) : g < W.heap.size := by
  unfold Lib.TabIs World.var? at h
  rw [hg, Option.bind_some] at h
  split at h
  · rename_i he; exact lt_of_heap he
  · cases h
theorem LawOk.walk {f : FuncId} {ys : List Ty} {ts : List TypeId} {args : Array Value} {ds : List (DataW H)} {ps : List MemPlace} {base : Nat} (hf : LawOk P f ys) (hy : tysFit P ys ts)
    (h : DataW.TrodAll enc P W 0 (fun _ => true) true ts args.toList ds ps) (hok : ∀ (j : Nat) t v, ts[j]? = some t → args.toList[j]? = some v → Value.okWide P W .any base t v)
    (hw : (DataW.weightsEach P ts ds).all (· ≤ reachBytes) = true) (hlt : ∀ p ∈ ps, p.block < W.heap.size) (htab : ∀ g, P.globalNamed tabName = some g → Lib.TabIs P W tabName .u64 tabNums) :
    Calls P f args W fun e w' => e = .returned (.bool true) ∧ Below W.heap.size W w' := by
  obtain ⟨xs, h1, h2⟩ := open_all (R := fun b => b < W.heap.size) hy h hok (fun n hn => by simpa using List.all_eq_true.1 hw n hn) (fun p hp => hlt p hp)
  have := hf xs h1 W _ _ _ ⟨fun _ h => h, fun g hg => ⟨tab_lt (htab g hg) hg, htab g hg⟩⟩ h2 (by simp)
  rw [Array.toArray_toList] at this
  refine this.mono fun e w' hp => ?_
  obtain ⟨v, I', L', rfl, q1, _, _, _, q5, _⟩ := hp
  have : v = .bool true := by simp only [ownR, rep] at q5; exact q5.2
  exact ⟨by rw [this], q1.os, q1.tape, q1.output, q1.size, fun k hk => q1.same k hk (by simp)⟩
end
section
variable {H : Type} {enc : TypeId × Value → H} {P : Program} {W : World}
theorem trodAll_lt : ∀ {ts : List TypeId} {vs : List Value} {ds : List (DataW H)} {ps : List MemPlace}, DataW.TrodAll enc P W 0 (fun _ => true) true ts vs ds ps → ∀ p ∈ ps, p.block < W.heap.size
  | [], _, _, _, h => by obtain ⟨_, _, rfl⟩ := trodAll_nil h; simp
  | _ :: _, _, _, _, h => by
    obtain ⟨v, vs', d, ds', p, q, rfl, rfl, rfl, ⟨m, h1⟩, h2⟩ := trodAll_cons h
    intro x hx
    rcases List.mem_append.1 hx with hx | hx
    · exact DataW.trod_lt m _ _ _ h1 x hx
    · exact trodAll_lt h2 x hx
theorem trodAll_below {W' : World} (hl : laidOutB P = true) (hb : Below W.heap.size W W') : ∀ {ts : List TypeId} {vs : List Value} {ds : List (DataW H)} {ps : List MemPlace}, ts.all (fun t => P.readableRec t && decide (t < P.types.size)) = true →
  DataW.TrodAll enc P W 0 (fun _ => true) true ts vs ds ps → (∀ p ∈ ps, p.block < W.heap.size) → DataW.TrodAll enc P W' 0 (fun b => decide (b < W.heap.size)) true ts vs ds ps
 | [], _, _, _, _, h, _ => by obtain ⟨rfl, rfl, rfl⟩ := trodAll_nil h; rfl
 | t :: ts, _, _, _, hr, h, hlt => by
  obtain ⟨v, vs', d, ds', p, q, rfl, rfl, rfl, h1, h2⟩ := trodAll_cons h
  simp only [List.all_cons, Bool.and_eq_true, decide_eq_true_eq] at hr
  exact trodAll_cons_mk (Below.trod hl hr.1.1 hr.1.2 h1 hb fun x hx => hlt x (by simp [hx])) (trodAll_below hl hb hr.2 h2 fun x hx => hlt x (by simp [hx]))
theorem trodAll_len : ∀ {ts : List TypeId} {vs : List Value} {ds : List (DataW H)} {ps : List MemPlace}, DataW.TrodAll enc P W 0 (fun _ => true) true ts vs ds ps → ds.length = ts.length
 | [], _, _, _, h => by obtain ⟨_, rfl, _⟩ := trodAll_nil h; rfl
 | _ :: _, _, _, _, h => by
  obtain ⟨v, vs', d, ds', p, q, rfl, rfl, rfl, _, h2⟩ := trodAll_cons h
  simp [trodAll_len h2]
theorem laid_plain {P : Program} {l : List (String × DataW Unit)} {w : World} (hp : (l.filter fun x => x.2.handleName?.isSome) = []) (h : laidMetH P l w) : laidMet P l w := by
 unfold laidMetH at h; rw [hp] at h; exact h
theorem laid_drop {P : Program} {w : World} : ∀ {l : List (String × DataW Unit)} (k : Nat), laidMet P l w → laidMet P (l.drop k) w
 | _, 0, h => h
 | [], _ + 1, h => h
 | _ :: _, k + 1, h => laid_drop k h.tail
theorem tab_of_laid {P : Program} {l : List (String × DataW Unit)} {w : World} {g n : Nat} {t e : TypeId} (k : Nat) (hg : P.globalNamed tabName = some g) (hty : (P.globals[g]?).map (·.type) = some t) (ht : P.underlying t = some (.array n e)) (he : P.underlying e = some (.int .u64))
    (hce : P.cellsOf e = 1) (hct : P.cellsOf t = n) (hp : (l.filter fun x => x.2.handleName?.isSome) = []) (hk : l.drop k = (tabName, Lib.tabData .u64 tabNums) :: l.drop (k + 1)) (h : laidMetH P l w) : ∀ g', P.globalNamed tabName = some g' → Lib.TabIs P w tabName .u64 tabNums := fun _ _ => by
  have h1 := laid_drop k (laid_plain hp h)
  rw [hk] at h1
  exact Lib.tabIs_of_head hg hty ht he hce hct h1
theorem LawOk.lifted {C : Checked} {os : Os} (own : ownKnob C.prog.godebug = none) (started : os.Started) {f : FuncId} {fn : Func} {s : ChangeSpec} {apart : Bool} {X : World → Array Value → Prop} {ys : List Ty}
    {ts : List TypeId} {rt : TypeId} (hf : LawOk C.prog f ys) (hX : ∀ (w w' : World) (args : Array Value), w.heap = w'.heap → X w args → X w' args) (hT : ∀ (w : World) (args : Array Value), X w args → ∀ g, C.prog.globalNamed tabName = some g → Lib.TabIs C.prog w tabName .u64 tabNums) (noInit : C.prog.inits.idxOf? f = none) (hfn : C.prog.funcs[f]? = some fn)
    (hps : fn.params = ts.toArray) (hrs : fn.resultTypes = #[rt]) (hrt : C.prog.underlying rt = some .bool) (hy : tysFit C.prog ys ts) (hl : laidOutB C.prog = true) (hr : ts.all (fun t => C.prog.readableRec t && decide (t < C.prog.types.size)) = true)
    (hv : s.vars = []) (hs : ∀ ds : List (DataW H), ds.length = ts.length → s.fn H ds = { results := [.lit (.bool true)], args := ds })
    (witness : ∃ (w : World) (tape : Tape) (i : Input), w.os = os ∧ (w.forCall tape i).Shaped C.prog ∧ i.vars = [] ∧ Input.okWide C.prog (w.forCall tape i) .any w.heap.size f i ∧
      ((s.pre enc C.prog fn [] apart (w.forCall tape i).memory i.args ∧ X (w.forCall tape i).memory i.args) ∧ sizedMet enc C.prog fn (OpenSpec.ofChange s) apart (w.forCall tape i).memory i.args) ∧ ({} : Assume).holds C.prog (lone (Frame.enter C.prog f i.args .normal) [] (w.forCall tape i))) :
    ReturnsInHanded {} C os f .any (fun w args => (s.pre enc C.prog fn [] apart w args ∧ X w args) ∧ sizedMet enc C.prog fn (OpenSpec.ofChange s) apart w args) (s.post enc C.prog fn apart true false false) := by
  refine returnsInHanded_of_change_and (X := X) hX own started noInit hfn witness ?_
  intro W base args ds gs before hval hW _ hsz hXW _
  have hW' := hW
  obtain ⟨p, q, hA, hV, rfl, hfz, hnd⟩ := hW
  rw [hv] at hV
  obtain ⟨rfl, rfl⟩ := trodVars_none hV
  rw [hps] at hA hsz hval
  have hts : ts.toArray.toList = ts := by simp
  rw [hts] at hA hsz
  have hlt := trodAll_lt hA
  have hvt : s.plain.varTypes C.prog = [] := by simp [ChangeSpec.plain, DataSpec.varTypes, hv]
  rw [hvt, List.append_nil, List.append_nil] at hsz
  refine (hf.walk hy hA (fun j t v ht hv' => hval j t v (by simpa using ht) (by simpa using hv')) hsz hlt (hT W args hXW)).mono fun e W' ⟨he, bel⟩ => ?_
  subst he
  have hsd := hs ds (trodAll_len hA)
  refine ⟨_, rfl, ds, [], _, [], p, [], hW', ?_, ?_, ?_, bel.frame _, fun h => by cases h⟩
  · rw [List.append_nil, hsd, hrs]
    exact trodAll_mk1 (shut_bool hrt _)
  · rw [List.append_nil, hsd, hps, hts]
    exact trodAll_below hl bel hr hA hlt
  · rw [List.append_nil, hsd, hv]
    rfl
end
end
end Go.Proofs.YtdljcbbodihagaaGreatDoor
