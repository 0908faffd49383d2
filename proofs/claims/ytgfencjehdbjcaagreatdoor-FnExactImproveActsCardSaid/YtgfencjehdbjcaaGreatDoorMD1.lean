/- A part of the proof. -/
import Derived.Test.YtgfencjehdbjcaaGreatDoorM14

set_option linter.unusedVariables false
set_option linter.unusedSimpArgs false
set_option maxRecDepth 100000
namespace Go.Proofs.YtgfencjehdbjcaaGreatDoor
open Go

def Mdl.lens (m : Mdl) : Prop := m.come.length < 4611686018427387904 ∧ m.serve.length < 4611686018427387904 ∧ m.reward.length < 4611686018427387904 ∧ m.cost.length < 4611686018427387904
def szM (m : Mdl) (l : Int) : Int :=
 if l - m.come.length < 0 then -1 else if l - m.come.length - m.serve.length < 0 then -1 else if l - m.come.length - m.serve.length - m.reward.length < 0 then -1
 else if l - m.come.length - m.serve.length - m.reward.length - m.cost.length < 0 then -1 else l - m.come.length - m.serve.length - m.reward.length - m.cost.length
theorem szM_small {m : Mdl} {l : Int} (h0 : l ≤ 1000000) (h : ¬ szM m l < 0) : m.small := by
  unfold szM at h
  unfold Mdl.small
  split at h
  · omega
  · split at h
    · omega
    · split at h
      · omega
      · split at h <;> omega
theorem szM_left {m : Mdl} {l : Int} (h : ¬ szM m l < 0) : 0 ≤ l := by
  unfold szM at h
  split at h
  · omega
  · omega
theorem l_szModel (m : Mdl) (l : Int) (h0 : -4611686018427387904 ≤ l) (h1 : l ≤ 1000000) (hl : m.lens) :
    CW Tryz.prog 6 [m.av, .int .i64 l] (.int .i64 (szM m l)) := by
  refine cw (by kernel_rfl) (by simp [AV.pure, AV.pureL]) (by simp [AV.pure, AV.pureL]) ?_
  obtain ⟨l1, l2, l3, l4⟩ := hl
  unfold szM
  by_cases c1 : l - m.come.length < 0
  · rw [if_pos c1]
    (refine callOk_of_wpc (W := fun _ => false) false hm' Tryz.func6 rfl (by kernel_rfl) (Nat.le_of_ble_eq_true rfl) (go_start ?_); generalize hQ : Post Tryz.prog Tryz.f6 _ _ _ _ _ = Q; simp only [stIn, matL, matA, st00])
    simp (disch := omega) only [go_sem, Nat.reduceEqDiff, Nat.reduceBEq, ↓reduceIte, reduceCtorEq]
    rw [← hQ]
    exact post_one (.inl rfl) rfl (by simp [upd_app] <;> omega) rfl
  by_cases c2 : l - m.come.length - m.serve.length < 0
  · rw [if_neg c1, if_pos c2]
    (refine callOk_of_wpc (W := fun _ => false) false hm' Tryz.func6 rfl (by kernel_rfl) (Nat.le_of_ble_eq_true rfl) (go_start ?_); generalize hQ : Post Tryz.prog Tryz.f6 _ _ _ _ _ = Q; simp only [stIn, matL, matA, st00])
    simp (disch := omega) only [go_sem, Nat.reduceEqDiff, Nat.reduceBEq, ↓reduceIte, reduceCtorEq]
    rw [← hQ]
    exact post_one (.inl rfl) rfl (by simp [upd_app] <;> omega) rfl
  by_cases c3 : l - m.come.length - m.serve.length - m.reward.length < 0
  · rw [if_neg c1, if_neg c2, if_pos c3]
    (refine callOk_of_wpc (W := fun _ => false) false hm' Tryz.func6 rfl (by kernel_rfl) (Nat.le_of_ble_eq_true rfl) (go_start ?_); generalize hQ : Post Tryz.prog Tryz.f6 _ _ _ _ _ = Q; simp only [stIn, matL, matA, st00])
    simp (disch := omega) only [go_sem, Nat.reduceEqDiff, Nat.reduceBEq, ↓reduceIte, reduceCtorEq]
    rw [← hQ]
    exact post_one (.inl rfl) rfl (by simp [upd_app] <;> omega) rfl
  rw [if_neg c1, if_neg c2, if_neg c3]
  by_cases c4 : l - m.come.length - m.serve.length - m.reward.length - m.cost.length < 0
  · rw [if_pos c4]
    (refine callOk_of_wpc (W := fun _ => false) false hm' Tryz.func6 rfl (by kernel_rfl) (Nat.le_of_ble_eq_true rfl) (go_start ?_); generalize hQ : Post Tryz.prog Tryz.f6 _ _ _ _ _ = Q; simp only [stIn, matL, matA, st00])
    simp (disch := omega) only [go_sem, Nat.reduceEqDiff, Nat.reduceBEq, ↓reduceIte, reduceCtorEq]
    rw [← hQ]
    exact post_one (.inl rfl) rfl (by simp [upd_app] <;> omega) rfl
  · rw [if_neg c4]
    (refine callOk_of_wpc (W := fun _ => false) false hm' Tryz.func6 rfl (by kernel_rfl) (Nat.le_of_ble_eq_true rfl) (go_start ?_); generalize hQ : Post Tryz.prog Tryz.f6 _ _ _ _ _ = Q; simp only [stIn, matL, matA, st00])
    simp (disch := omega) only [go_sem, Nat.reduceEqDiff, Nat.reduceBEq, ↓reduceIte, reduceCtorEq]
    rw [← hQ]
    exact post_one (.inl rfl) rfl (by simp [upd_app] <;> omega) rfl
theorem l_toModel (m : Mdl) :
  CW Tryz.prog 8 [m.av] m.av := by
 refine cw (by kernel_rfl) (by simp [AV.pure, AV.pureL]) (by simp [AV.pure, AV.pureL]) ?_
 (refine callOk_of_wpc (W := fun _ => false) false hm' Tryz.func8 rfl (by kernel_rfl) (Nat.le_of_ble_eq_true rfl) (go_start ?_); generalize hQ : Post Tryz.prog Tryz.f8 _ _ _ _ _ = Q; simp only [stIn, matL, matA, st00])
 simp (disch := omega) only [go_sem, Nat.reduceEqDiff, Nat.reduceBEq, ↓reduceIte, reduceCtorEq]
 rw [← hQ]
 exact post_cell1 (id := 1) (x := m.av) (.inl rfl) rfl o_iModel (by simp [upd_app] <;> omega) (by simp [upd_app]) (by simp [upd_app]) ld_iModel rfl
theorem snapB1 {st : St} {id n : Nat} {bs : List Bool} {ex gr : Bool} (h : st.h id = ⟨4, boolA bs, ex, gr, true⟩) (hn : bs.length = n) : snapA st 8 (.ref id n 0 n) = some (.sl 4 (boolA bs) [] false, [id]) :=
 snap_frozen (d := 7) (by rw [h]) (by rw [h, boolA_len, hn]) (by rw [h]) (by omega) (by rw [h, List.drop_zero]; exact List.take_of_length_le (by rw [boolA_len]; omega)) (boolA_pure _)
theorem snapB2 {st : St} {i j n : Nat} {bs cs : List Bool} {ex ex' gr gr' : Bool} (hi : st.h i = ⟨4, boolA bs, ex, gr, true⟩) (hj : st.h j = ⟨4, boolA cs, ex', gr', true⟩) (hn : bs.length = n) (hm : cs.length = n) :
  snapL (snapA st 8) [.ref i n 0 n, .ref j n 0 n] = some ([.sl 4 (boolA bs) [] false, .sl 4 (boolA cs) [] false], [i, j]) := by
 simp [snapL, snapB1 hi hn, snapB1 hj hm]
theorem w_markNilB {k : Int} : CW Tryz.prog 11 [.nil, .int .i64 k] (.int .i64 k) := by
 refine cw (by kernel_rfl) (by simp [AV.pure, AV.pureL]) (by simp [AV.pure, AV.pureL]) ?_
 (refine callOk_of_wpc (W := fun _ => false) false hm' Tryz.func11 rfl (by kernel_rfl) (Nat.le_of_ble_eq_true rfl) (go_start ?_); generalize hQ : Post Tryz.prog Tryz.f11 _ _ _ _ _ = Q; simp only [stIn, matL, matA, st00])
 simp (disch := omega) only [go_sem, Nat.reduceEqDiff, Nat.reduceBEq, ↓reduceIte, reduceCtorEq]
 refine k_loop (fun (_ : Nat) st => st.fr 0 = .nil ∧ st.fr 1 = .int .i64 k ∧ st.fr 5 = .int .i64 0) (fun i => i) 0 ⟨(by simp [upd_app] <;> omega), (by simp [upd_app] <;> omega), (by simp [upd_app] <;> omega)⟩ ?_
 rintro i ⟨fr, h, nx⟩ ⟨g0, g1, g5⟩ J hJ
 simp only at g0 g1 g5
 simp (disch := omega) only [go_sem, Nat.reduceEqDiff, Nat.reduceBEq, ↓reduceIte, reduceCtorEq, g0, g1, g5]
 rw [← hQ]
 exact post_one (.inl rfl) rfl (by simp [upd_app] <;> omega) rfl
def tyM : Ty := .st [.int .i64, .str, .str, .str, .str]
theorem isT_M {x : AV} (h : isT tyM x) : ∃ m : Mdl, x = m.av ∧ m.lens := by
 obtain ⟨xs, rfl, h⟩ := h
 obtain ⟨_, _, rfl, ⟨n, rfl, hn⟩, _, _, rfl, ⟨s1, rfl, h1⟩, _, _, rfl, ⟨s2, rfl, h2⟩, _, _, rfl, ⟨s3, rfl, h3⟩, _, _, rfl, ⟨s4, rfl, h4⟩, rfl⟩ := h
 exact ⟨⟨n, s1, s2, s3, s4⟩, rfl, ⟨h1, h2, h3, h4⟩⟩
attribute [go_sem] w_markNilB

theorem isC_bools {x : AV} (h : isC (.sl 4 .bool) x) : ∃ bs : List Bool, x = .sl 4 (boolA bs) [] false ∧ bs.length < 4611686018427387904 := by
 obtain ⟨ys, rfl, hl, hy⟩ := h
 have : ∃ bs : List Bool, ys = boolA bs := by
  clear hl
  induction ys with
  | nil => exact ⟨[], rfl⟩
  | cons y ys ih =>
   obtain ⟨bs, rfl⟩ := ih fun z hz => hy z (by simp [hz])
   obtain ⟨b, rfl⟩ := hy y (by simp)
   exact ⟨b :: bs, rfl⟩
 obtain ⟨bs, rfl⟩ := this
 exact ⟨bs, rfl, by rw [boolA_len] at hl; exact hl⟩
theorem impT_len {m : Mdl} {acts bs : List Bool} (h : impT m acts = some bs) : bs.length ≤ 8 ∧ 1 ≤ acts.length := by
  unfold impT actQ at h
  cases hq : modR m with
  | none => rw [hq] at h; cases h
  | some x =>
    rw [hq] at h
    obtain ⟨_, _, _, _, k1, k8, _⟩ := modR_fits hq
    simp only at h
    split at h
    · rename_i y hy
      split at hy
      · rename_i hc; cases hy; cases h; rw [betL_len, hc]; exact ⟨k8, k1⟩
      · cases hy
    · cases h
set_option maxHeartbeats 2000000 in
theorem law_ImproveActs (m : Mdl) (hl : m.lens) (acts : List Bool) (ha : acts.length < 4611686018427387904) : CallOk Tryz.prog 5 [m.av, .sl 4 (boolA acts) [] false] (.bool true) [] := by
  have h1 := l_szModel m (1000000 - acts.length) (by omega) (by omega) hl
  have h2 := l_toModel m
  obtain ⟨z, hz⟩ : ∃ z, szM m (1000000 - acts.length) = z := ⟨_, rfl⟩
  rw [hz] at h1
  obtain ⟨n, hn⟩ : ∃ n, acts.length = n := ⟨_, rfl⟩
  rw [hn] at h1 hz ha
  by_cases hneg : z < 0
  · (refine callOk_of_wpc (W := fun g => g == 14 || g == 16 || g == 11 || g == 17 || g == 18) false hm' Tryz.func5 rfl (by kernel_rfl) (Nat.le_of_ble_eq_true rfl) (go_start ?_); generalize hQ : Post Tryz.prog Tryz.f5 _ _ _ _ _ = Q; simp only [stIn, matL, matA, st00])
    simp (disch := omega) only [go_sem, Nat.reduceEqDiff, Nat.reduceBEq, ↓reduceIte, reduceCtorEq, h1, boolA_len, hn]
    (repeat (with_reducible refine Or.inr ?_))
    rw [← hQ]
    exact post_one (.inl rfl) rfl (by simp [upd_app] <;> omega) rfl
  have hs : m.small := szM_small (l := 1000000 - (n : Int)) (by omega) (by rw [hz]; exact hneg)
  have hle : n ≤ 1000000 := by have := szM_left (m := m) (l := 1000000 - (n : Int)) (by rw [hz]; exact hneg); omega
  have hS := s_ImproveActs (acts := acts) hs (by omega)
  have hI := i_ImproveActs (acts := acts) hs (by omega)
  have hT := l_toB acts false (.inl rfl) (by omega)
  have hlen : ∀ bs, impT m acts = some bs → bs.length ≤ 8 := fun bs h => (impT_len h).1
  have hne : ∀ bs, impT m acts = some bs → 1 ≤ n := fun bs h => hn ▸ (impT_len h).2
  generalize impT m acts = o at *
  rw [hn] at hT
  have hspl := spB_len (n := n) (r := roomB n)
  generalize hsp : spB n (roomB n) = sp at *
  have hrl := room_le n
  have heqN := (l_eqB (bs := []) (by simp)).args (SubL.cons sub_nil (SubL.cons sub_nil .nil))
  have hheldN := (l_heldB (n := 0) (k := 101) (by omega)).args (SubL.cons sub_nil (SubL.cons (Sub.refl _) .nil))
  cases o with
  | none =>
    rw [optB] at hI hS
    (refine callOk_of_wpc (W := fun g => g == 14 || g == 16 || g == 11 || g == 17 || g == 18) false hm' Tryz.func5 rfl (by kernel_rfl) (Nat.le_of_ble_eq_true rfl) (go_start ?_); generalize hQ : Post Tryz.prog Tryz.f5 _ _ _ _ _ = Q; simp only [stIn, matL, matA, st00])
    simp (disch := omega) only [go_sem, Nat.reduceEqDiff, Nat.reduceBEq, ↓reduceIte, reduceCtorEq, h1, boolA_len, hn, h2]
    (repeat (with_reducible refine Or.inr ?_))
    refine callW_O hT cl_toB (by simp [AV.pure, AV.pureL]) (boolA_pure _) (boolA_pure _) rfl ?_
    simp only [boolA_len, boolA_append, hn]
    simp (disch := omega) only [go_sem, Nat.reduceEqDiff, Nat.reduceBEq, ↓reduceIte, reduceCtorEq]
    refine callW_X hS (by kernel_rfl) (snapBB (ex := true) (gr := true) (sp := sp) (by simp [upd_app]) hn rfl rfl) rfl (matA_pure _ _ _ rfl) rfl ?_
    simp (disch := omega) only [go_sem, Nat.reduceEqDiff, Nat.reduceBEq, ↓reduceIte, reduceCtorEq]
    refine callW_O hT cl_toB (by simp [AV.pure, AV.pureL]) (boolA_pure _) (boolA_pure _) rfl ?_
    simp only [boolA_len, boolA_append, hn]
    simp (disch := omega) only [go_sem, Nat.reduceEqDiff, Nat.reduceBEq, ↓reduceIte, reduceCtorEq, h2]
    (repeat (with_reducible refine Or.inr ?_))
    refine callW_X hI (by kernel_rfl) (snapBB (ex := true) (gr := true) (sp := sp) (by simp [upd_app]) hn rfl rfl) rfl (matA_pure _ _ _ rfl) rfl ?_
    simp (disch := omega) only [go_sem, Nat.reduceEqDiff, Nat.reduceBEq, ↓reduceIte, reduceCtorEq]
    refine callW_P heqN (by kernel_rfl) rfl rfl ?_
    simp (disch := omega) only [go_sem, Nat.reduceEqDiff, Nat.reduceBEq, ↓reduceIte, reduceCtorEq]
    refine callW_O hT cl_toB (by simp [AV.pure, AV.pureL]) (boolA_pure _) (boolA_pure _) rfl ?_
    simp only [boolA_len, boolA_append, hn]
    simp (disch := omega) only [go_sem, Nat.reduceEqDiff, Nat.reduceBEq, ↓reduceIte, reduceCtorEq]
    refine callW_I (i_intactB (xs := acts) (sp := sp) (n := n) (N := n + sp.length) (gr := true) (gr' := true) (by simp [upd_app]) (by simp [upd_app]) hn (by rw [hspl]) hspl hle) (by kernel_rfl) (.inl rfl) ?_
    simp (disch := omega) only [go_sem, Nat.reduceEqDiff, Nat.reduceBEq, ↓reduceIte, reduceCtorEq]
    refine callW_I (i_markP (k := 101) (xs := acts) (sp := sp) (n := n) (N := n + sp.length) (ex := true) (gr := true) (by simp [upd_app]) hn (by simp [hn]) (by omega) (by omega)) (by kernel_rfl) (.inl rfl) ?_
    simp (disch := omega) only [go_sem, Nat.reduceEqDiff, Nat.reduceBEq, ↓reduceIte, reduceCtorEq]
    refine callW_P heqN (by kernel_rfl) rfl rfl ?_
    simp (disch := omega) only [go_sem, Nat.reduceEqDiff, Nat.reduceBEq, ↓reduceIte, reduceCtorEq, w_markNilB]
    (repeat (with_reducible refine Or.inr ?_))
    refine callW_P hheldN (by kernel_rfl) rfl rfl ?_
    simp (disch := omega) only [go_sem, Nat.reduceEqDiff, Nat.reduceBEq, ↓reduceIte, reduceCtorEq, h2]
    (repeat (with_reducible refine Or.inr ?_))
    by_cases hnil : acts = []
    · subst hnil
      refine callW_P l_toNilB cl_toB (by simp [AV.pure, AV.pureL]) rfl ?_
      simp (disch := omega) only [go_sem, Nat.reduceEqDiff, Nat.reduceBEq, ↓reduceIte, reduceCtorEq]
      refine callW_X (hI.args (SubL.cons (Sub.refl _) (SubL.cons sub_nil .nil))) (by kernel_rfl) (snapL_pure rfl) rfl (matA_pure _ _ _ rfl) rfl ?_
      simp (disch := omega) only [go_sem, Nat.reduceEqDiff, Nat.reduceBEq, ↓reduceIte, reduceCtorEq]
      refine callW_P heqN (by kernel_rfl) rfl rfl ?_
      simp (disch := omega) only [go_sem, Nat.reduceEqDiff, Nat.reduceBEq, ↓reduceIte, reduceCtorEq]
      refine callW_P hheldN (by kernel_rfl) rfl rfl ?_
      simp (disch := omega) only [go_sem, Nat.reduceEqDiff, Nat.reduceBEq, ↓reduceIte, reduceCtorEq]
      rw [← hQ]
      exact post_one (.inl rfl) rfl (by simp [upd_app] <;> omega) rfl
    · have hT2 := l_toB acts true (.inr hnil) (by omega)
      rw [hn, hsp] at hT2
      refine callW_O hT2 cl_toB (by simp [AV.pure, AV.pureL]) (boolA_pure _) (boolA_pure _) rfl ?_
      simp only [boolA_len, boolA_append, hn]
      simp (disch := omega) only [go_sem, Nat.reduceEqDiff, Nat.reduceBEq, ↓reduceIte, reduceCtorEq]
      refine callW_X hI (by kernel_rfl) (snapBB (ex := true) (gr := true) (sp := sp) (by simp [upd_app]) hn rfl rfl) rfl (matA_pure _ _ _ rfl) rfl ?_
      simp (disch := omega) only [go_sem, Nat.reduceEqDiff, Nat.reduceBEq, ↓reduceIte, reduceCtorEq]
      refine callW_P heqN (by kernel_rfl) rfl rfl ?_
      simp (disch := omega) only [go_sem, Nat.reduceEqDiff, Nat.reduceBEq, ↓reduceIte, reduceCtorEq]
      refine callW_P hheldN (by kernel_rfl) rfl rfl ?_
      simp (disch := omega) only [go_sem, Nat.reduceEqDiff, Nat.reduceBEq, ↓reduceIte, reduceCtorEq]
      rw [← hQ]
      exact post_one (.inl rfl) rfl (by simp [upd_app] <;> omega) rfl
  | some bs =>
    have htl := hlen bs rfl
    have hnil : acts ≠ [] := fun h => by have := hne bs rfl; rw [h] at hn; simp at hn; omega
    rw [optB] at hI hS
    have heq := l_eqB (bs := bs) (by omega)
    have hheld := l_heldB (n := bs.length) (k := 101) (by omega)
    (refine callOk_of_wpc (W := fun g => g == 14 || g == 16 || g == 11 || g == 17 || g == 18) false hm' Tryz.func5 rfl (by kernel_rfl) (Nat.le_of_ble_eq_true rfl) (go_start ?_); generalize hQ : Post Tryz.prog Tryz.f5 _ _ _ _ _ = Q; simp only [stIn, matL, matA, st00])
    simp (disch := omega) only [go_sem, Nat.reduceEqDiff, Nat.reduceBEq, ↓reduceIte, reduceCtorEq, h1, boolA_len, hn, h2]
    (repeat (with_reducible refine Or.inr ?_))
    refine callW_O hT cl_toB (by simp [AV.pure, AV.pureL]) (boolA_pure _) (boolA_pure _) rfl ?_
    simp only [boolA_len, boolA_append, hn]
    simp (disch := omega) only [go_sem, Nat.reduceEqDiff, Nat.reduceBEq, ↓reduceIte, reduceCtorEq]
    refine callW_X hS (by kernel_rfl) (snapBB (ex := true) (gr := true) (sp := sp) (by simp [upd_app]) hn rfl rfl) (optB_solid false (some bs)) (matA_ownB (boolA_pure bs) rfl) rfl ?_
    simp only [boolA_len, List.length_nil, Nat.add_zero, List.append_nil]
    simp (disch := omega) only [go_sem, Nat.reduceEqDiff, Nat.reduceBEq, ↓reduceIte, reduceCtorEq]
    refine callW_O hT cl_toB (by simp [AV.pure, AV.pureL]) (boolA_pure _) (boolA_pure _) rfl ?_
    simp only [boolA_len, boolA_append, hn]
    simp (disch := omega) only [go_sem, Nat.reduceEqDiff, Nat.reduceBEq, ↓reduceIte, reduceCtorEq, h2]
    (repeat (with_reducible refine Or.inr ?_))
    refine callW_X hI (by kernel_rfl) (snapBB (ex := true) (gr := true) (sp := sp) (by simp [upd_app]) hn rfl rfl) (optB_solid false (some bs)) (matA_ownB (boolA_pure bs) rfl) rfl ?_
    simp only [boolA_len, List.length_nil, Nat.add_zero, List.append_nil]
    simp (disch := omega) only [go_sem, Nat.reduceEqDiff, Nat.reduceBEq, ↓reduceIte, reduceCtorEq]
    refine callW_S heq (by kernel_rfl) (snapB2 (ex := false) (gr := true) (ex' := false) (gr' := true) (by simp [upd_app]) (by simp [upd_app]) rfl rfl) rfl rfl ?_
    simp (disch := omega) only [go_sem, Nat.reduceEqDiff, Nat.reduceBEq, ↓reduceIte, reduceCtorEq]
    refine callW_O hT cl_toB (by simp [AV.pure, AV.pureL]) (boolA_pure _) (boolA_pure _) rfl ?_
    simp only [boolA_len, boolA_append, hn]
    simp (disch := omega) only [go_sem, Nat.reduceEqDiff, Nat.reduceBEq, ↓reduceIte, reduceCtorEq]
    refine callW_I (i_intactB (xs := acts) (sp := sp) (n := n) (N := n + sp.length) (gr := true) (gr' := true) (by simp [upd_app]) (by simp [upd_app]) hn (by rw [hspl]) hspl hle) (by kernel_rfl) (.inl rfl) ?_
    simp (disch := omega) only [go_sem, Nat.reduceEqDiff, Nat.reduceBEq, ↓reduceIte, reduceCtorEq]
    refine callW_I (i_markP (k := 101) (xs := acts) (sp := sp) (n := n) (N := n + sp.length) (ex := true) (gr := true) (by simp [upd_app]) hn (by simp [hn]) (by omega) (by omega)) (by kernel_rfl) (.inl rfl) ?_
    simp (disch := omega) only [go_sem, Nat.reduceEqDiff, Nat.reduceBEq, ↓reduceIte, reduceCtorEq]
    refine callW_S heq (by kernel_rfl) (snapB2 (ex := false) (gr := true) (ex' := false) (gr' := true) (by simp [upd_app]) (by simp [upd_app]) rfl rfl) rfl rfl ?_
    simp (disch := omega) only [go_sem, Nat.reduceEqDiff, Nat.reduceBEq, ↓reduceIte, reduceCtorEq]
    refine callW_I (i_markB (k := 101) (xs := bs) (n := bs.length) (ex := false) (gr := true) (by simp [upd_app]) rfl (by omega)) (by kernel_rfl) (.inl rfl) ?_
    simp (disch := omega) only [go_sem, Nat.reduceEqDiff, Nat.reduceBEq, ↓reduceIte, reduceCtorEq]
    refine callW_S hheld (by kernel_rfl) (snap_bools (ex := false) (gr := true) (by simp [upd_app]) (marksB_len _ _) rfl) rfl rfl ?_
    simp (disch := omega) only [go_sem, Nat.reduceEqDiff, Nat.reduceBEq, ↓reduceIte, reduceCtorEq, h2]
    (repeat (with_reducible refine Or.inr ?_))
    have hT2 := l_toB acts true (.inr hnil) (by omega)
    rw [hn, hsp] at hT2
    refine callW_O hT2 cl_toB (by simp [AV.pure, AV.pureL]) (boolA_pure _) (boolA_pure _) rfl ?_
    simp only [boolA_len, boolA_append, hn]
    simp (disch := omega) only [go_sem, Nat.reduceEqDiff, Nat.reduceBEq, ↓reduceIte, reduceCtorEq]
    refine callW_X hI (by kernel_rfl) (snapBB (ex := true) (gr := true) (sp := sp) (by simp [upd_app]) hn rfl rfl) (optB_solid false (some bs)) (matA_ownB (boolA_pure bs) rfl) rfl ?_
    simp only [boolA_len, List.length_nil, Nat.add_zero, List.append_nil]
    simp (disch := omega) only [go_sem, Nat.reduceEqDiff, Nat.reduceBEq, ↓reduceIte, reduceCtorEq]
    refine callW_S heq (by kernel_rfl) (snapB2 (ex := false) (gr := true) (ex' := false) (gr' := true) (by simp [upd_app]) (by simp [upd_app]) rfl rfl) rfl rfl ?_
    simp (disch := omega) only [go_sem, Nat.reduceEqDiff, Nat.reduceBEq, ↓reduceIte, reduceCtorEq]
    refine callW_S hheld (by kernel_rfl) (snap_bools (ex := false) (gr := true) (by simp [upd_app]) (marksB_len _ _) rfl) rfl rfl ?_
    simp (disch := omega) only [go_sem, Nat.reduceEqDiff, Nat.reduceBEq, ↓reduceIte, reduceCtorEq]
    rw [← hQ]
    exact post_one (.inl rfl) rfl (by simp [upd_app] <;> omega) rfl
theorem lawOk_ImproveActs : LawOk Tryz.prog 5 [.st [.int .i64, .str, .str, .str, .str], .cell (.sl 4 .bool)] := by
 intro xs h
 obtain ⟨x, _, rfl, hx, y, _, rfl, hy, rfl⟩ := h
 obtain ⟨m, rfl, hm⟩ := isT_M hx
 obtain ⟨bs, rfl, hb⟩ := isC_bools hy
 exact law_ImproveActs m hm bs hb
end Go.Proofs.YtgfencjehdbjcaaGreatDoor
