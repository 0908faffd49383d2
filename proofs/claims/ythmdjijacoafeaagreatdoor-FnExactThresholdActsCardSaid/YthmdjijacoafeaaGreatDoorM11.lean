/- Part 11 of the ground of the proofs of this seat. -/
import Derived.ProofKit
import Derived.LaidMore
import Derived.LaidLaws
import Derived.LaidHandle
import Derived.OpenShut
import Derived.WalkKit
import Derived.ShutString
import Derived.SizedLaws
import Derived.SliceStrings
import Derived.Below
import Derived.Carry
import Derived.Stop.Joined
import Derived.SevenTiedAt
import Derived.Stop.LaidErr
import Derived.Test.YthmdjijacoafeaaGreatDoorM10

set_option linter.unusedVariables false
set_option linter.unusedSimpArgs false
set_option maxRecDepth 100000
namespace Go.Proofs.YthmdjijacoafeaaGreatDoor
open Go

structure Mdl where
  room : Int
  come : List UInt8
  serve : List UInt8
  reward : List UInt8
  cost : List UInt8
abbrev Mdl.av (m : Mdl) : AV := .agg [.int .i64 m.room, .str m.come, .str m.serve, .str m.reward, .str m.cost]
def Mdl.small (m : Mdl) : Prop := m.come.length ≤ 1000000 ∧ m.serve.length ≤ 1000000 ∧ m.reward.length ≤ 1000000 ∧ m.cost.length ≤ 1000000
structure MR where
  room : Nat
  come : Rat
  serve : Rat
  reward : Rat
  cost : Rat
def modOk (m : Mdl) (c s r k : Rat) : Prop := 1 ≤ m.room ∧ m.room ≤ 8 ∧ 0 < c ∧ 0 < s ∧ 0 ≤ r ∧ 0 ≤ k ∧ c + s ≤ 1
instance (m : Mdl) (c s r k : Rat) : Decidable (modOk m c s r k) := by unfold modOk; infer_instance
def modR (m : Mdl) : Option MR :=
  match parseR m.come, parseR m.serve, parseR m.reward, parseR m.cost with
  | some c, some s, some r, some k => if modOk m c s r k then some ⟨m.room.toNat, c, s, r, k⟩ else none
  | _, _, _, _ => none
theorem modR_fits {m : Mdl} {x : MR} (h : modR m = some x) : fits 700 x.come ∧ fits 700 x.serve ∧ fits 700 x.reward ∧ fits 700 x.cost ∧ 1 ≤ x.room ∧ x.room ≤ 8 ∧ m.room = x.room ∧ 0 < x.come ∧ 0 < x.serve ∧ 0 ≤ x.reward ∧ 0 ≤ x.cost ∧ x.come + x.serve ≤ 1 := by
  unfold modR at h
  split at h
  · rename_i c s r k hc hs hr hk
    split at h
    · rename_i ho
      cases h
      obtain ⟨o1, o2, o3⟩ := ho
      exact ⟨parse_fits hc, parse_fits hs, parse_fits hr, parse_fits hk, by simp only; omega, by simp only; omega, by simp only; omega, o3⟩
    · cases h
  · cases h
abbrev MR.sv (x : MR) : AV := .agg [.int .i64 x.room, .bool (decide (x.come.num < 0)), tS 700 x.come, dS 700 x.come, .bool (decide (x.serve.num < 0)), tS 700 x.serve, dS 700 x.serve,
  .bool (decide ((1 - x.come - x.serve).num < 0)), tS 1466 (1 - x.come - x.serve), dS 1466 (1 - x.come - x.serve), .bool (decide (x.reward.num < 0)), tS 700 x.reward, dS 700 x.reward, .bool (decide (x.cost.num < 0)), tS 700 x.cost, dS 700 x.cost]
abbrev zeroMS : AV := .agg [.int .i64 0, .bool false, .nil, .nil, .bool false, .nil, .nil, .bool false, .nil, .nil, .bool false, .nil, .nil, .bool false, .nil, .nil]
def modS : Option MR → AV
  | some x => .tup [x.sv, .bool true]
  | none => .tup [zeroMS, .bool false]
theorem modS_s (x : MR) : modS (some x) = .tup [x.sv, .bool true] := rfl
theorem modS_n : modS none = .tup [zeroMS, .bool false] := rfl
@[simp] theorem modS_pure (o : Option MR) : (modS o).pure = true := by cases o <;> simp [modS, AV.pure, AV.pureL]
attribute [go_sem] modS_s modS_n
theorem gen_sParse {s : List UInt8} (hs : s.length ≤ 1000000) : ∃ x y z, CW Tryz.prog 17 [.str s] (.tup [.agg [x, y, z], .bool (parseR s).isSome]) ∧ x.one = true ∧ y.one = true ∧ z.one = true := by
  have h := w_sParse hs
  cases hq : parseR s with
  | none => rw [hq] at h; exact ⟨_, _, _, h, rfl, rfl, rfl⟩
  | some q => rw [hq] at h; exact ⟨_, _, _, h, rfl, by simp, by simp⟩
set_option maxHeartbeats 8000000 in
theorem s_l09Parse (m : Mdl) (hm0 : m.small) : CP Tryz.prog 11 28 m.av [] (modS (modR m)) := by
  obtain ⟨l1, l2, l3, l4⟩ := hm0
  obtain ⟨x1, y1, z1, g1, a1, b1, c1⟩ := gen_sParse l1
  obtain ⟨x2, y2, z2, g2, a2, b2, c2⟩ := gen_sParse l2
  obtain ⟨x3, y3, z3, g3, a3, b3, c3⟩ := gen_sParse l3
  obtain ⟨x4, y4, z4, g4, a4, b4, c4⟩ := gen_sParse l4
  have hroom : ∀ c s r k, parseR m.come = some c → parseR m.serve = some s → parseR m.reward = some r → parseR m.cost = some k → ¬ modOk m c s r k → modR m = none := by
    intro c s r k e1 e2 e3 e4 h
    simp only [modR, e1, e2, e3, e4, if_neg h]
  have hnone : (parseR m.come = none ∨ parseR m.serve = none ∨ parseR m.reward = none ∨ parseR m.cost = none) → modR m = none := by
    intro h
    simp only [modR]
    split
    · rename_i e1 e2 e3 e4; simp [e1, e2, e3, e4] at h
    · rfl
  by_cases hr : ¬ (1 ≤ m.room ∧ m.room ≤ 8)
  · have hn : modR m = none := by
      unfold modR
      split
      · rw [if_neg (fun h => hr ⟨h.1, h.2.1⟩)]
      · rfl
    rw [hn]
    have hr' : decide (1 ≤ m.room ∧ m.room ≤ 8) = false := by simpa using hr
    (intro fr0 h nx id hm hid; refine inOkF_of_wpc (W := ⟨fun _ => false, fun r => if r = 7 then some [(0, 5), (1, 5), (2, 5), (3, 5), (4, 5)] else none⟩) hm' Tryz.func11 rfl (by kernel_rfl) (Nat.le_of_ble_eq_true rfl) (by simp [AV.pure, AV.pureL, natA_pure, natI_pure, natS_pure]) (go_start ?_); generalize hQ : PostF Tryz.prog Tryz.f11 _ _ _ = Q; clear fr0)
    simp (disch := omega) only [go_sem, ↓k_cond, ↓x_idx, ↓k_block, Nat.reduceEqDiff, Nat.reduceBEq, ↓reduceIte, reduceCtorEq, ↓k_appE, hm, g1, g2, g3, g4, a1, b1, c1, a2, b2, c2, a3, b3, c3, a4, b4, c4, Option.isSome_none, Option.isSome_some, hr']
    (repeat (with_reducible refine Or.inr ?_))
    rw [← hQ]
    exact postF_cell (id := nx) (x := zeroMS) (.inl rfl) rfl o_sMod (by simp [upd_app] <;> omega) (by simp [upd_app]) (by simp [upd_app]) ld_sMod (by simp [upd_app] <;> omega) (by intro i hi; simp only [upd_app]; repeat rw [if_neg (by omega)]) (by simp <;> omega)
  have hr' : decide (1 ≤ m.room ∧ m.room ≤ 8) = true := by simpa using hr
  cases e1 : parseR m.come with
  | none =>
    rw [e1] at g1
    rw [hnone (.inl e1)]
    (intro fr0 h nx id hm hid; refine inOkF_of_wpc (W := ⟨fun _ => false, fun r => if r = 7 then some [(0, 5), (1, 5), (2, 5), (3, 5), (4, 5)] else none⟩) hm' Tryz.func11 rfl (by kernel_rfl) (Nat.le_of_ble_eq_true rfl) (by simp [AV.pure, AV.pureL, natA_pure, natI_pure, natS_pure]) (go_start ?_); generalize hQ : PostF Tryz.prog Tryz.f11 _ _ _ = Q; clear fr0)
    simp (disch := omega) only [go_sem, ↓k_cond, ↓x_idx, ↓k_block, Nat.reduceEqDiff, Nat.reduceBEq, ↓reduceIte, reduceCtorEq, ↓k_appE, hm, g1, g2, g3, g4, a1, b1, c1, a2, b2, c2, a3, b3, c3, a4, b4, c4, Option.isSome_none, Option.isSome_some, hr']
    (repeat (with_reducible refine Or.inr ?_))
    rw [← hQ]
    exact postF_cell (id := nx) (x := zeroMS) (.inl rfl) rfl o_sMod (by simp [upd_app] <;> omega) (by simp [upd_app]) (by simp [upd_app]) ld_sMod (by simp [upd_app] <;> omega) (by intro i hi; simp only [upd_app]; repeat rw [if_neg (by omega)]) (by simp <;> omega)
  | some c =>
  cases e2 : parseR m.serve with
  | none =>
    rw [e1] at g1; rw [e2] at g2
    rw [hnone (.inr (.inl e2))]
    (intro fr0 h nx id hm hid; refine inOkF_of_wpc (W := ⟨fun _ => false, fun r => if r = 7 then some [(0, 5), (1, 5), (2, 5), (3, 5), (4, 5)] else none⟩) hm' Tryz.func11 rfl (by kernel_rfl) (Nat.le_of_ble_eq_true rfl) (by simp [AV.pure, AV.pureL, natA_pure, natI_pure, natS_pure]) (go_start ?_); generalize hQ : PostF Tryz.prog Tryz.f11 _ _ _ = Q; clear fr0)
    simp (disch := omega) only [go_sem, ↓k_cond, ↓x_idx, ↓k_block, Nat.reduceEqDiff, Nat.reduceBEq, ↓reduceIte, reduceCtorEq, ↓k_appE, hm, g1, g2, g3, g4, a1, b1, c1, a2, b2, c2, a3, b3, c3, a4, b4, c4, Option.isSome_none, Option.isSome_some, hr']
    (repeat (with_reducible refine Or.inr ?_))
    rw [← hQ]
    exact postF_cell (id := nx) (x := zeroMS) (.inl rfl) rfl o_sMod (by simp [upd_app] <;> omega) (by simp [upd_app]) (by simp [upd_app]) ld_sMod (by simp [upd_app] <;> omega) (by intro i hi; simp only [upd_app]; repeat rw [if_neg (by omega)]) (by simp <;> omega)
  | some s =>
  cases e3 : parseR m.reward with
  | none =>
    rw [e1] at g1; rw [e2] at g2; rw [e3] at g3
    rw [hnone (.inr (.inr (.inl e3)))]
    (intro fr0 h nx id hm hid; refine inOkF_of_wpc (W := ⟨fun _ => false, fun r => if r = 7 then some [(0, 5), (1, 5), (2, 5), (3, 5), (4, 5)] else none⟩) hm' Tryz.func11 rfl (by kernel_rfl) (Nat.le_of_ble_eq_true rfl) (by simp [AV.pure, AV.pureL, natA_pure, natI_pure, natS_pure]) (go_start ?_); generalize hQ : PostF Tryz.prog Tryz.f11 _ _ _ = Q; clear fr0)
    simp (disch := omega) only [go_sem, ↓k_cond, ↓x_idx, ↓k_block, Nat.reduceEqDiff, Nat.reduceBEq, ↓reduceIte, reduceCtorEq, ↓k_appE, hm, g1, g2, g3, g4, a1, b1, c1, a2, b2, c2, a3, b3, c3, a4, b4, c4, Option.isSome_none, Option.isSome_some, hr']
    (repeat (with_reducible refine Or.inr ?_))
    rw [← hQ]
    exact postF_cell (id := nx) (x := zeroMS) (.inl rfl) rfl o_sMod (by simp [upd_app] <;> omega) (by simp [upd_app]) (by simp [upd_app]) ld_sMod (by simp [upd_app] <;> omega) (by intro i hi; simp only [upd_app]; repeat rw [if_neg (by omega)]) (by simp <;> omega)
  | some r =>
  cases e4 : parseR m.cost with
  | none =>
    rw [e1] at g1; rw [e2] at g2; rw [e3] at g3; rw [e4] at g4
    rw [hnone (.inr (.inr (.inr e4)))]
    (intro fr0 h nx id hm hid; refine inOkF_of_wpc (W := ⟨fun _ => false, fun r => if r = 7 then some [(0, 5), (1, 5), (2, 5), (3, 5), (4, 5)] else none⟩) hm' Tryz.func11 rfl (by kernel_rfl) (Nat.le_of_ble_eq_true rfl) (by simp [AV.pure, AV.pureL, natA_pure, natI_pure, natS_pure]) (go_start ?_); generalize hQ : PostF Tryz.prog Tryz.f11 _ _ _ = Q; clear fr0)
    simp (disch := omega) only [go_sem, ↓k_cond, ↓x_idx, ↓k_block, Nat.reduceEqDiff, Nat.reduceBEq, ↓reduceIte, reduceCtorEq, ↓k_appE, hm, g1, g2, g3, g4, a1, b1, c1, a2, b2, c2, a3, b3, c3, a4, b4, c4, Option.isSome_none, Option.isSome_some, hr']
    (repeat (with_reducible refine Or.inr ?_))
    rw [← hQ]
    exact postF_cell (id := nx) (x := zeroMS) (.inl rfl) rfl o_sMod (by simp [upd_app] <;> omega) (by simp [upd_app]) (by simp [upd_app]) ld_sMod (by simp [upd_app] <;> omega) (by intro i hi; simp only [upd_app]; repeat rw [if_neg (by omega)]) (by simp <;> omega)
  | some k =>
  have p1 := w_sParse l1
  have p2 := w_sParse l2
  have p3 := w_sParse l3
  have p4 := w_sParse l4
  rw [e1] at p1; rw [e2] at p2; rw [e3] at p3; rw [e4] at p4
  have hbad := hroom c s r k e1 e2 e3 e4
  clear g1 a1 b1 c1 g2 a2 b2 c2 g3 a3 b3 c3 g4 a4 b4 c4 hnone hroom x1 y1 z1 x2 y2 z2 x3 y3 z3 x4 y4 z4
  by_cases n1 : r < 0
  · rw [hbad (fun h => absurd n1 (Rat.not_lt.2 h.2.2.2.2.1))]
    have d1 : decide (r < 0) = true := by simpa using n1
    (intro fr0 h nx id hm hid; refine inOkF_of_wpc (W := ⟨fun _ => false, fun r => if r = 7 then some [(0, 5), (1, 5), (2, 5), (3, 5), (4, 5)] else none⟩) hm' Tryz.func11 rfl (by kernel_rfl) (Nat.le_of_ble_eq_true rfl) (by simp [AV.pure, AV.pureL, natA_pure, natI_pure, natS_pure]) (go_start ?_); generalize hQ : PostF Tryz.prog Tryz.f11 _ _ _ = Q; clear fr0)
    simp (disch := omega) only [go_sem, ↓k_cond, ↓x_idx, ↓k_block, Nat.reduceEqDiff, Nat.reduceBEq, ↓reduceIte, reduceCtorEq, ↓k_appE, hm, p1, p2, p3, p4, hr', d1]
    (repeat (with_reducible refine Or.inr ?_))
    rw [← hQ]
    exact postF_cell (id := nx) (x := zeroMS) (.inl rfl) rfl o_sMod (by simp [upd_app] <;> omega) (by simp [upd_app]) (by simp [upd_app]) ld_sMod (by simp [upd_app] <;> omega) (by intro i hi; simp only [upd_app]; repeat rw [if_neg (by omega)]) (by simp <;> omega)
  have d1 : decide (r < 0) = false := by simpa using n1
  by_cases n2 : k < 0
  · rw [hbad (fun h => absurd n2 (Rat.not_lt.2 h.2.2.2.2.2.1))]
    have d2 : decide (k < 0) = true := by simpa using n2
    (intro fr0 h nx id hm hid; refine inOkF_of_wpc (W := ⟨fun _ => false, fun r => if r = 7 then some [(0, 5), (1, 5), (2, 5), (3, 5), (4, 5)] else none⟩) hm' Tryz.func11 rfl (by kernel_rfl) (Nat.le_of_ble_eq_true rfl) (by simp [AV.pure, AV.pureL, natA_pure, natI_pure, natS_pure]) (go_start ?_); generalize hQ : PostF Tryz.prog Tryz.f11 _ _ _ = Q; clear fr0)
    simp (disch := omega) only [go_sem, ↓k_cond, ↓x_idx, ↓k_block, Nat.reduceEqDiff, Nat.reduceBEq, ↓reduceIte, reduceCtorEq, ↓k_appE, hm, p1, p2, p3, p4, hr', d1, d2]
    (repeat (with_reducible refine Or.inr ?_))
    rw [← hQ]
    exact postF_cell (id := nx) (x := zeroMS) (.inl rfl) rfl o_sMod (by simp [upd_app] <;> omega) (by simp [upd_app]) (by simp [upd_app]) ld_sMod (by simp [upd_app] <;> omega) (by intro i hi; simp only [upd_app]; repeat rw [if_neg (by omega)]) (by simp <;> omega)
  have d2 : decide (k < 0) = false := by simpa using n2
  by_cases n3 : c = 0
  · rw [hbad (fun h => absurd h.2.2.1 (by rw [n3]; exact Rat.lt_irrefl))]
    have d3 : decide (c = 0) = true := by simpa using n3
    (intro fr0 h nx id hm hid; refine inOkF_of_wpc (W := ⟨fun _ => false, fun r => if r = 7 then some [(0, 5), (1, 5), (2, 5), (3, 5), (4, 5)] else none⟩) hm' Tryz.func11 rfl (by kernel_rfl) (Nat.le_of_ble_eq_true rfl) (by simp [AV.pure, AV.pureL, natA_pure, natI_pure, natS_pure]) (go_start ?_); generalize hQ : PostF Tryz.prog Tryz.f11 _ _ _ = Q; clear fr0)
    simp (disch := omega) only [go_sem, ↓k_cond, ↓x_idx, ↓k_block, Nat.reduceEqDiff, Nat.reduceBEq, ↓reduceIte, reduceCtorEq, ↓k_appE, hm, p1, p2, p3, p4, hr', d1, d2, d3]
    (repeat (with_reducible refine Or.inr ?_))
    rw [← hQ]
    exact postF_cell (id := nx) (x := zeroMS) (.inl rfl) rfl o_sMod (by simp [upd_app] <;> omega) (by simp [upd_app]) (by simp [upd_app]) ld_sMod (by simp [upd_app] <;> omega) (by intro i hi; simp only [upd_app]; repeat rw [if_neg (by omega)]) (by simp <;> omega)
  have d3 : decide (c = 0) = false := by simpa using n3
  by_cases n4 : c < 0
  · rw [hbad (fun h => absurd n4 (Rat.not_lt.2 (Rat.le_of_lt h.2.2.1)))]
    have d4 : decide (c < 0) = true := by simpa using n4
    (intro fr0 h nx id hm hid; refine inOkF_of_wpc (W := ⟨fun _ => false, fun r => if r = 7 then some [(0, 5), (1, 5), (2, 5), (3, 5), (4, 5)] else none⟩) hm' Tryz.func11 rfl (by kernel_rfl) (Nat.le_of_ble_eq_true rfl) (by simp [AV.pure, AV.pureL, natA_pure, natI_pure, natS_pure]) (go_start ?_); generalize hQ : PostF Tryz.prog Tryz.f11 _ _ _ = Q; clear fr0)
    simp (disch := omega) only [go_sem, ↓k_cond, ↓x_idx, ↓k_block, Nat.reduceEqDiff, Nat.reduceBEq, ↓reduceIte, reduceCtorEq, ↓k_appE, hm, p1, p2, p3, p4, hr', d1, d2, d3, d4]
    (repeat (with_reducible refine Or.inr ?_))
    rw [← hQ]
    exact postF_cell (id := nx) (x := zeroMS) (.inl rfl) rfl o_sMod (by simp [upd_app] <;> omega) (by simp [upd_app]) (by simp [upd_app]) ld_sMod (by simp [upd_app] <;> omega) (by intro i hi; simp only [upd_app]; repeat rw [if_neg (by omega)]) (by simp <;> omega)
  have d4 : decide (c < 0) = false := by simpa using n4
  by_cases n5 : s = 0
  · rw [hbad (fun h => absurd h.2.2.2.1 (by rw [n5]; exact Rat.lt_irrefl))]
    have d5 : decide (s = 0) = true := by simpa using n5
    (intro fr0 h nx id hm hid; refine inOkF_of_wpc (W := ⟨fun _ => false, fun r => if r = 7 then some [(0, 5), (1, 5), (2, 5), (3, 5), (4, 5)] else none⟩) hm' Tryz.func11 rfl (by kernel_rfl) (Nat.le_of_ble_eq_true rfl) (by simp [AV.pure, AV.pureL, natA_pure, natI_pure, natS_pure]) (go_start ?_); generalize hQ : PostF Tryz.prog Tryz.f11 _ _ _ = Q; clear fr0)
    simp (disch := omega) only [go_sem, ↓k_cond, ↓x_idx, ↓k_block, Nat.reduceEqDiff, Nat.reduceBEq, ↓reduceIte, reduceCtorEq, ↓k_appE, hm, p1, p2, p3, p4, hr', d1, d2, d3, d4, d5]
    (repeat (with_reducible refine Or.inr ?_))
    rw [← hQ]
    exact postF_cell (id := nx) (x := zeroMS) (.inl rfl) rfl o_sMod (by simp [upd_app] <;> omega) (by simp [upd_app]) (by simp [upd_app]) ld_sMod (by simp [upd_app] <;> omega) (by intro i hi; simp only [upd_app]; repeat rw [if_neg (by omega)]) (by simp <;> omega)
  have d5 : decide (s = 0) = false := by simpa using n5
  by_cases n6 : s < 0
  · rw [hbad (fun h => absurd n6 (Rat.not_lt.2 (Rat.le_of_lt h.2.2.2.1)))]
    have d6 : decide (s < 0) = true := by simpa using n6
    (intro fr0 h nx id hm hid; refine inOkF_of_wpc (W := ⟨fun _ => false, fun r => if r = 7 then some [(0, 5), (1, 5), (2, 5), (3, 5), (4, 5)] else none⟩) hm' Tryz.func11 rfl (by kernel_rfl) (Nat.le_of_ble_eq_true rfl) (by simp [AV.pure, AV.pureL, natA_pure, natI_pure, natS_pure]) (go_start ?_); generalize hQ : PostF Tryz.prog Tryz.f11 _ _ _ = Q; clear fr0)
    simp (disch := omega) only [go_sem, ↓k_cond, ↓x_idx, ↓k_block, Nat.reduceEqDiff, Nat.reduceBEq, ↓reduceIte, reduceCtorEq, ↓k_appE, hm, p1, p2, p3, p4, hr', d1, d2, d3, d4, d5, d6]
    (repeat (with_reducible refine Or.inr ?_))
    rw [← hQ]
    exact postF_cell (id := nx) (x := zeroMS) (.inl rfl) rfl o_sMod (by simp [upd_app] <;> omega) (by simp [upd_app]) (by simp [upd_app]) ld_sMod (by simp [upd_app] <;> omega) (by intro i hi; simp only [upd_app]; repeat rw [if_neg (by omega)]) (by simp <;> omega)
  have d6 : decide (s < 0) = false := by simpa using n6
  have e7 : (1 - c - s < 0) ↔ ¬ (c + s ≤ 1) := by rw [Rat.not_le]; constructor <;> intro h <;> grind
  by_cases n7 : 1 - c - s < 0
  · rw [hbad (fun h => absurd h.2.2.2.2.2.2 (e7.1 n7))]
    have d7 : decide (1 - c - s < 0) = true := by simpa using n7
    (intro fr0 h nx id hm hid; refine inOkF_of_wpc (W := ⟨fun _ => false, fun r => if r = 7 then some [(0, 5), (1, 5), (2, 5), (3, 5), (4, 5)] else none⟩) hm' Tryz.func11 rfl (by kernel_rfl) (Nat.le_of_ble_eq_true rfl) (by simp [AV.pure, AV.pureL, natA_pure, natI_pure, natS_pure]) (go_start ?_); generalize hQ : PostF Tryz.prog Tryz.f11 _ _ _ = Q; clear fr0)
    simp (disch := omega) only [go_sem, ↓k_cond, ↓x_idx, ↓k_block, Nat.reduceEqDiff, Nat.reduceBEq, ↓reduceIte, reduceCtorEq, ↓k_appE, hm, p1, p2, p3, p4, hr', d1, d2, d3, d4, d5, d6, d7]
    (repeat (with_reducible refine Or.inr ?_))
    rw [← hQ]
    exact postF_cell (id := nx) (x := zeroMS) (.inl rfl) rfl o_sMod (by simp [upd_app] <;> omega) (by simp [upd_app]) (by simp [upd_app]) ld_sMod (by simp [upd_app] <;> omega) (by intro i hi; simp only [upd_app]; repeat rw [if_neg (by omega)]) (by simp <;> omega)
  have d7 : decide (1 - c - s < 0) = false := by simpa using n7
  have hok : modOk m c s r k := by
    have hr2 : 1 ≤ m.room ∧ m.room ≤ 8 := by simpa using hr
    refine ⟨hr2.1, hr2.2, ?_, ?_, Rat.not_lt.1 n1, Rat.not_lt.1 n2, ?_⟩
    · exact Rat.lt_of_le_of_ne (Rat.not_lt.1 n4) (fun e => n3 e.symm)
    · exact Rat.lt_of_le_of_ne (Rat.not_lt.1 n6) (fun e => n5 e.symm)
    · exact Classical.byContradiction fun h => n7 (e7.2 h)
  have hmod : modR m = some ⟨m.room.toNat, c, s, r, k⟩ := by simp only [modR, e1, e2, e3, e4, if_pos hok]
  have hrn : ((m.room.toNat : Nat) : Int) = m.room := Int.toNat_of_nonneg (by have := hok.1; omega)
  rw [hmod, modS_s]
  (intro fr0 h nx id hm hid; refine inOkF_of_wpc (W := ⟨fun _ => false, fun r => if r = 7 then some [(0, 5), (1, 5), (2, 5), (3, 5), (4, 5)] else none⟩) hm' Tryz.func11 rfl (by kernel_rfl) (Nat.le_of_ble_eq_true rfl) (by simp [AV.pure, AV.pureL, natA_pure, natI_pure, natS_pure]) (go_start ?_); generalize hQ : PostF Tryz.prog Tryz.f11 _ _ _ = Q; clear fr0)
  simp (disch := omega) only [go_sem, ↓k_cond, ↓x_idx, ↓k_block, Nat.reduceEqDiff, Nat.reduceBEq, ↓reduceIte, reduceCtorEq, ↓k_appE, hm, p1, p2, p3, p4, hr', d1, d2, d3, d4, d5, d6, d7]
  (repeat (with_reducible refine Or.inr ?_))
  rw [← hQ]
  exact postF_cell (id := nx) (x := MR.sv ⟨m.room.toNat, c, s, r, k⟩) (.inl rfl) rfl o_sMod (by simp [upd_app] <;> omega) (by simp [upd_app]) (by simp [upd_app, hrn]) ld_sMod (by simp [upd_app] <;> omega) (by intro i hi; simp only [upd_app]; repeat rw [if_neg (by omega)]) (by simp <;> omega)
theorem c_l09Parse : callable Tryz.prog 11 = true := by kernel_rfl
theorem tn0 : Int.toNat 0 = 0 := rfl
theorem tn1 : Int.toNat 1 = 1 := rfl
attribute [go_sem] tn0 tn1
theorem gen_readRat {s : List UInt8} (hs : s.length ≤ 1000000) : ∃ x y z, CW Tryz.prog 23 [.str s] (.tup [.agg [x, y, z], .bool (parseR s).isSome]) ∧ x.one = true ∧ y.one = true ∧ z.one = true := by
  have h := w_readRat (s := s) (by omega)
  cases hq : parseR s with
  | none => rw [hq] at h; exact ⟨_, _, _, h, rfl, rfl, rfl⟩
  | some q => rw [hq] at h; exact ⟨_, _, _, h, rfl, by simp, by simp⟩
def posR (s : List UInt8) : Option Rat := match parseR s with | some q => if 0 < q then some q else none | none => none
def posI : Option Rat → AV
  | some q => .tup [rI 700 q, .bool (decide (0 < q))]
  | none => .tup [.agg [.bool false, .nil, .nil], .bool false]
theorem posI_s (q : Rat) : posI (some q) = .tup [rI 700 q, .bool (decide (0 < q))] := rfl
theorem posI_n : posI none = .tup [.agg [.bool false, .nil, .nil], .bool false] := rfl
@[simp] theorem posI_pure (o : Option Rat) : (posI o).pure = true := by cases o <;> simp [posI, AV.pure, AV.pureL]
attribute [go_sem] posI_s posI_n
theorem sign_pos (q : Rat) : decide (0 < q.num.sign) = decide (0 < q) := by
  have h1 : 0 < q.num ↔ 0 < q := by
    have a := Rat.num_nonneg (q := q)
    have b := num_zero (a := q)
    constructor
    · intro h; exact Rat.lt_of_le_of_ne (a.1 (by omega)) (fun e => by rw [← e] at h; simp at h)
    · intro h
      have h2 := a.2 (Rat.le_of_lt h)
      have h3 : q.num ≠ 0 := fun e => by rw [b.1 e] at h; exact Rat.lt_irrefl h
      omega
  have h2 : 0 < q.num.sign ↔ 0 < q.num := by
    rcases Int.lt_trichotomy q.num 0 with h | h | h
    · rw [Int.sign_eq_neg_one_of_neg h]; omega
    · rw [h]; simp
    · rw [Int.sign_eq_one_of_pos h]; omega
  exact decide_eq_decide.2 (h2.trans h1)
theorem w_positive {s : List UInt8} (hs : s.length ≤ 1000000) : CW Tryz.prog 36 [.str s] (posI (parseR s)) := by
  refine cw (by kernel_rfl) (by simp [AV.pure, AV.pureL, natA_pure, natI_pure, natS_pure]) (by simp [AV.pure, AV.pureL, natA_pure, natI_pure, natS_pure]) ?_
  have h := w_readRat (s := s) (by omega)
  cases hq : parseR s with
  | none =>
    rw [hq] at h
    (refine callOk_of_wpc (W := fun _ => false) false hm' Tryz.func36 rfl (by kernel_rfl) (Nat.le_of_ble_eq_true rfl) (go_start ?_); generalize hQ : Post Tryz.prog Tryz.f36 _ _ _ _ _ = Q; simp only [stIn, matL, matA, st00])
    simp (disch := omega) only [go_sem, ↓k_cond, ↓x_idx, ↓k_block, Nat.reduceEqDiff, Nat.reduceBEq, ↓reduceIte, reduceCtorEq, h]
    (repeat (with_reducible refine Or.inr ?_))
    rw [← hQ]
    exact post_cell (id := 0) (x := .agg [.bool false, .nil, .nil]) (.inl rfl) rfl o_iRat (by simp [upd_app] <;> omega) (by simp [upd_app]) (by simp [upd_app]) ld_iRat (by simp [upd_app] <;> omega) rfl rfl
  | some q =>
    rw [hq] at h
    have hsg := sign_pos q
    have hs2 := w_sign (m := 700) (a := q) (by omega)
    rw [posI_s, ← hsg]
    generalize q.num.sign = sg at *
    by_cases hp : 0 < sg
    all_goals
      (refine callOk_of_wpc (W := fun _ => false) false hm' Tryz.func36 rfl (by kernel_rfl) (Nat.le_of_ble_eq_true rfl) (go_start ?_); generalize hQ : Post Tryz.prog Tryz.f36 _ _ _ _ _ = Q; simp only [stIn, matL, matA, st00])
      simp (disch := omega) only [go_sem, ↓k_cond, ↓x_idx, ↓k_block, Nat.reduceEqDiff, Nat.reduceBEq, ↓reduceIte, reduceCtorEq, h, hs2]
      (repeat (with_reducible refine Or.inr ?_))
      rw [← hQ]
      exact post_cell (id := 0) (x := rI 700 q) (.inl rfl) rfl o_iRat (by simp [upd_app] <;> omega) (by simp [upd_app]) (by simp [upd_app]) ld_iRat (by simp [upd_app]; omega) (by simp [AV.pure, AV.pureL]) rfl
attribute [go_sem] w_positive
attribute [go_sem] w_positive
theorem w_positives {xs : List (List UInt8)} {ex : Bool} (hl : xs.length ≤ 1000000) (hs : ∀ x ∈ xs, x.length ≤ 1000000) : CW Tryz.prog 22 [.sl 9 (strA xs) [] ex] (optLI (xs.mapM posR)) := by
  refine cw (by kernel_rfl) (by simp [AV.pure, AV.pureL, natA_pure, natI_pure, natS_pure]) (by simp [AV.pure, AV.pureL, natA_pure, natI_pure, natS_pure]) ?_
  obtain ⟨n, hn⟩ : ∃ n, xs.length = n := ⟨_, rfl⟩
  rw [hn] at hl
  (refine callOk_of_wpc (W := fun _ => false) false hm' Tryz.func22 rfl (by kernel_rfl) (Nat.le_of_ble_eq_true rfl) (go_start ?_); generalize hQ : Post Tryz.prog Tryz.f22 _ _ _ _ _ = Q; simp only [stIn, matL, matA, st00])
  simp (disch := omega) only [go_sem, ↓k_cond, ↓x_idx, ↓k_block, Nat.reduceEqDiff, Nat.reduceBEq, ↓reduceIte, reduceCtorEq, strA_length, hn]
  refine k_loop (fun (⟨i, qs⟩ : Nat × List Rat) st => st.fr 4 = .ref 0 i 0 i ∧ st.fr 10 = .sl 9 (strA xs) [] ex ∧ st.fr 11 = .int .i64 n ∧ st.fr 12 = .int .i64 i ∧ (∃ ex, st.h 0 = ⟨47, ratL 700 qs, ex, true, true⟩) ∧ 0 < st.nx ∧ (qs.length = i) ∧ (i ≤ n) ∧ ((xs.take i).mapM posR = some qs)) (fun (⟨i, qs⟩ : Nat × List Rat) => n - i) (0, [])
    ⟨(by simp [upd_app, ratL_nil] <;> omega), (by simp [upd_app, ratL_nil] <;> omega), (by simp [upd_app, ratL_nil] <;> omega), (by simp [upd_app, ratL_nil] <;> omega), ⟨true, (by simp [upd_app, ratL_nil] <;> omega)⟩, (by simp <;> omega), rfl, by omega, by simp⟩ ?_
  rintro ⟨i, qs⟩ ⟨fr, h, nx⟩ ⟨g4, g10, g11, g12, ⟨ex0, hm0⟩, hnx, hql, hi, hq⟩ J hJ
  simp only at g4 g10 g11 g12 hm0 hnx
  have n1 : (0 = nx) = False := by simp; omega
  have n2 : (nx = 0) = False := by simp; omega
  by_cases hin : i < n
  · obtain ⟨x, hx⟩ := get_some (xs := xs) (i := i) (by omega)
    have hxl := hs x (List.mem_of_getElem? hx)
    cases hp : parseR x with
    | none =>
      rw [mapM_fail hx (show posR x = none by simp [posR, hp])] at hQ
      simp (disch := omega) only [go_sem, ↓k_cond, ↓x_idx, ↓k_block, Nat.reduceEqDiff, Nat.reduceBEq, ↓reduceIte, reduceCtorEq, g4, g10, g11, g12, strA_at, hx, strA_length, hn, hp]
      (repeat (with_reducible refine Or.inr ?_))
      rw [← hQ]
      exact post_two (.inl rfl) rfl (by simp [upd_app] <;> omega) (by simp [upd_app] <;> omega) rfl rfl
    | some q =>
      by_cases h0 : 0 < q
      · have hd : decide (0 < q) = true := by simpa using h0
        have hmt := mapM_take hq hx (show posR x = some q by simp [posR, hp, h0])
        simp (disch := omega) only [go_sem, ↓k_cond, ↓x_idx, ↓k_block, Nat.reduceEqDiff, Nat.reduceBEq, ↓reduceIte, reduceCtorEq, g4, g10, g11, g12, hm0, strA_at, hx, strA_length, hn, hp, hd, n1, n2, hql, reach]
        (repeat (with_reducible refine Or.inr ?_))
        exact hJ (i + 1, qs ++ [q]) _ ⟨(by simp [upd_app] <;> omega), (by simp [upd_app, g10] <;> omega), (by simp [upd_app, g11] <;> omega), (by simp [upd_app] <;> omega), ⟨false, by simp [upd_app, n1, n2, hm0, ratL]⟩, (by simp <;> omega), by simp [hql], hin, hmt⟩ (by simp only; omega)
      · have hd : decide (0 < q) = false := by simpa using h0
        rw [mapM_fail hx (show posR x = none by simp [posR, hp, h0])] at hQ
        simp (disch := omega) only [go_sem, ↓k_cond, ↓x_idx, ↓k_block, Nat.reduceEqDiff, Nat.reduceBEq, ↓reduceIte, reduceCtorEq, g4, g10, g11, g12, strA_at, hx, strA_length, hn, hp, hd]
        (repeat (with_reducible refine Or.inr ?_))
        rw [← hQ]
        exact post_two (.inl rfl) rfl (by simp [upd_app] <;> omega) (by simp [upd_app] <;> omega) rfl rfl
  · obtain rfl : i = n := by omega
    rw [List.take_of_length_le (by omega)] at hq
    rw [hq] at hQ
    simp (disch := omega) only [go_sem, ↓k_cond, ↓x_idx, ↓k_block, Nat.reduceEqDiff, Nat.reduceBEq, ↓reduceIte, reduceCtorEq, g4, g10, g11, g12]
    rw [← hQ]
    have hfz : snapA (⟨_, h, nx⟩ : St) 7 (.ref 0 i 0 i) = some (.sl 47 (ratL 700 qs) [] false, [0]) := snap_frozen (st := ⟨fr, h, nx⟩) (d := 6) (by simp [hm0]) (by simp [hm0, ratL_length, hql]) (by simp [hm0]) (by simp) (by simp [hm0]; exact List.take_of_length_le (by simp [ratL_length, hql])) ratL_pure
    exact post_tup (.inl rfl) rfl (by simp [upd_app] <;> omega) (by simp [upd_app] <;> omega) hfz (snapA_pure rfl) (fun a _ => Nat.zero_le _) (.inl rfl)
abbrev MR.iv (x : MR) : AV := .agg [.int .i64 x.room, .bool (decide (x.come.num < 0)), tI 700 x.come, dI 700 x.come, .bool (decide (x.serve.num < 0)), tI 700 x.serve, dI 700 x.serve,
  .bool (decide (x.reward.num < 0)), tI 700 x.reward, dI 700 x.reward, .bool (decide (x.cost.num < 0)), tI 700 x.cost, dI 700 x.cost]
abbrev zeroMI : AV := .agg [.int .i64 0, .bool false, .nil, .nil, .bool false, .nil, .nil, .bool false, .nil, .nil, .bool false, .nil, .nil]
def modI : Option MR → AV
  | some x => .tup [x.iv, .bool true]
  | none => .tup [zeroMI, .bool false]
theorem modI_s (x : MR) : modI (some x) = .tup [x.iv, .bool true] := rfl
theorem modI_n : modI none = .tup [zeroMI, .bool false] := rfl
@[simp] theorem modI_pure (o : Option MR) : (modI o).pure = true := by cases o <;> simp [modI, AV.pure, AV.pureL]
attribute [go_sem] modI_s modI_n
theorem list2_sum (c s : Rat) : sumL [c, s] = c + s := by simp [sumL, Rat.zero_add]
set_option maxHeartbeats 8000000 in
theorem i_modelOf (m : Mdl) (hm0 : m.small) :
    CW Tryz.prog 14 [m.av] (modI (modR m)) := by
  refine cw (by kernel_rfl) (by simp [AV.pure, AV.pureL, natA_pure, natI_pure, natS_pure]) (by simp [AV.pure, AV.pureL, natA_pure, natI_pure, natS_pure]) ?_
  obtain ⟨l1, l2, l3, l4⟩ := hm0
  obtain ⟨x3, y3, z3, g3, a3, b3, c3⟩ := gen_readRat l3
  obtain ⟨x4, y4, z4, g4, a4, b4, c4⟩ := gen_readRat l4
  have hpos := w_positives (xs := [m.come, m.serve]) (ex := true) (by simp) (by simp [l1, l2])
  have hM : [m.come, m.serve].mapM posR = match posR m.come, posR m.serve with | some c, some s => some [c, s] | _, _ => none := by
    simp only [List.mapM_cons, List.mapM_nil]
    cases posR m.come <;> cases posR m.serve <;> rfl
  rw [hM] at hpos
  simp only [strA, List.map_cons, List.map_nil] at hpos
  have hbad : ∀ c s r k, parseR m.come = some c → parseR m.serve = some s → parseR m.reward = some r → parseR m.cost = some k → ¬ modOk m c s r k → modR m = none := by
    intro c s r k e1 e2 e3 e4 h
    simp only [modR, e1, e2, e3, e4, if_neg h]
  have hnp : (posR m.come = none ∨ posR m.serve = none) → modR m = none := by
    intro h
    unfold modR
    split
    · rename_i c s r k e1 e2 e3 e4
      refine if_neg fun ho => ?_
      simp only [posR, e1, e2, if_pos ho.2.2.1, if_pos ho.2.2.2.1] at h
      simp at h
    · rfl
  have hnone : (parseR m.reward = none ∨ parseR m.cost = none) → modR m = none := by
    intro h
    unfold modR
    split
    · rename_i e1 e2 e3 e4; simp [e3, e4] at h
    · rfl
  cases p1 : posR m.come with
  | none =>
    rw [p1] at hpos
    rw [hnp (.inl p1)]
    (refine callOk_of_wpc (W := fun _ => false) false hm' Tryz.func14 rfl (by kernel_rfl) (Nat.le_of_ble_eq_true rfl) (go_start ?_); generalize hQ : Post Tryz.prog Tryz.f14 _ _ _ _ _ = Q; simp only [stIn, matL, matA, st00])
    simp (disch := omega) only [go_sem, ↓k_cond, ↓x_idx, ↓k_block, Nat.reduceEqDiff, Nat.reduceBEq, ↓reduceIte, reduceCtorEq, hpos, g3, g4, a3, b3, c3, a4, b4, c4]
    (repeat (with_reducible refine Or.inr ?_))
    rw [← hQ]
    exact post_cell (id := 1) (x := zeroMI) (.inl rfl) rfl o_imodel (by simp [upd_app] <;> omega) (by simp [upd_app]) (by simp [upd_app]) ld_imodel (by simp [upd_app] <;> omega) (by simp [AV.pure, AV.pureL]) rfl
  | some c =>
  cases p2 : posR m.serve with
  | none =>
    rw [p1, p2] at hpos
    rw [hnp (.inr p2)]
    (refine callOk_of_wpc (W := fun _ => false) false hm' Tryz.func14 rfl (by kernel_rfl) (Nat.le_of_ble_eq_true rfl) (go_start ?_); generalize hQ : Post Tryz.prog Tryz.f14 _ _ _ _ _ = Q; simp only [stIn, matL, matA, st00])
    simp (disch := omega) only [go_sem, ↓k_cond, ↓x_idx, ↓k_block, Nat.reduceEqDiff, Nat.reduceBEq, ↓reduceIte, reduceCtorEq, hpos, g3, g4, a3, b3, c3, a4, b4, c4]
    (repeat (with_reducible refine Or.inr ?_))
    rw [← hQ]
    exact post_cell (id := 1) (x := zeroMI) (.inl rfl) rfl o_imodel (by simp [upd_app] <;> omega) (by simp [upd_app]) (by simp [upd_app]) ld_imodel (by simp [upd_app] <;> omega) (by simp [AV.pure, AV.pureL]) rfl
  | some s =>
  rw [p1, p2] at hpos
  simp only at hpos
  have q1 : parseR m.come = some c ∧ 0 < c := by
    unfold posR at p1
    split at p1
    · rename_i q hq; split at p1 <;> simp at p1; subst p1; exact ⟨hq, by assumption⟩
    · cases p1
  have q2 : parseR m.serve = some s ∧ 0 < s := by
    unfold posR at p2
    split at p2
    · rename_i q hq; split at p2 <;> simp at p2; subst p2; exact ⟨hq, by assumption⟩
    · cases p2
  cases e3 : parseR m.reward with
  | none =>
    rw [e3] at g3
    rw [hnone (.inl e3)]
    (refine callOk_of_wpc (W := fun _ => false) false hm' Tryz.func14 rfl (by kernel_rfl) (Nat.le_of_ble_eq_true rfl) (go_start ?_); generalize hQ : Post Tryz.prog Tryz.f14 _ _ _ _ _ = Q; simp only [stIn, matL, matA, st00])
    simp (disch := omega) only [go_sem, ↓k_cond, ↓x_idx, ↓k_block, Nat.reduceEqDiff, Nat.reduceBEq, ↓reduceIte, reduceCtorEq, hpos, g3, g4, a3, b3, c3, a4, b4, c4, Option.isSome_none]
    (repeat (with_reducible refine Or.inr ?_))
    rw [← hQ]
    exact post_cell (id := 1) (x := zeroMI) (.inl rfl) rfl o_imodel (by simp [upd_app] <;> omega) (by simp [upd_app]) (by simp [upd_app]) ld_imodel (by simp [upd_app] <;> omega) (by simp [AV.pure, AV.pureL]) rfl
  | some r =>
  cases e4 : parseR m.cost with
  | none =>
    rw [e3] at g3; rw [e4] at g4
    rw [hnone (.inr e4)]
    (refine callOk_of_wpc (W := fun _ => false) false hm' Tryz.func14 rfl (by kernel_rfl) (Nat.le_of_ble_eq_true rfl) (go_start ?_); generalize hQ : Post Tryz.prog Tryz.f14 _ _ _ _ _ = Q; simp only [stIn, matL, matA, st00])
    simp (disch := omega) only [go_sem, ↓k_cond, ↓x_idx, ↓k_block, Nat.reduceEqDiff, Nat.reduceBEq, ↓reduceIte, reduceCtorEq, hpos, g3, g4, a3, b3, c3, a4, b4, c4, Option.isSome_none, Option.isSome_some]
    (repeat (with_reducible refine Or.inr ?_))
    rw [← hQ]
    exact post_cell (id := 1) (x := zeroMI) (.inl rfl) rfl o_imodel (by simp [upd_app] <;> omega) (by simp [upd_app]) (by simp [upd_app]) ld_imodel (by simp [upd_app] <;> omega) (by simp [AV.pure, AV.pureL]) rfl
  | some k =>
  have r3 := w_readRat (s := m.reward) (by omega)
  have r4 := w_readRat (s := m.cost) (by omega)
  rw [e3] at r3; rw [e4] at r4
  have hb := hbad c s r k q1.1 q2.1 e3 e4
  have hsum := w_sum (m := 700) (qs := [c, s]) (by omega) (by simp)
  rw [list2_sum] at hsum
  simp only [List.length_cons, List.length_nil] at hsum
  have hcmp := w_cmp (m := 64 + (0 + 1 + 1) * (700 + 1)) (n := 64) (a := c + s) (b := 1) (by omega)
  have hone := w_whole (n := 1) (by omega) (by omega)
  rw [int_cast_1] at hone
  clear g3 a3 b3 c3 g4 a4 b4 c4 hnone hbad hnp x3 y3 z3 x4 y4 z4 hM
  by_cases n1 : r < 0
  · rw [hb (fun h => absurd n1 (Rat.not_lt.2 h.2.2.2.2.1))]
    have d1 : decide (r < 0) = true := by simpa using n1
    (refine callOk_of_wpc (W := fun _ => false) false hm' Tryz.func14 rfl (by kernel_rfl) (Nat.le_of_ble_eq_true rfl) (go_start ?_); generalize hQ : Post Tryz.prog Tryz.f14 _ _ _ _ _ = Q; simp only [stIn, matL, matA, st00])
    simp (disch := omega) only [go_sem, ↓k_cond, ↓x_idx, ↓k_block, Nat.reduceEqDiff, Nat.reduceBEq, ↓reduceIte, reduceCtorEq, hpos, r3, r4, d1]
    (repeat (with_reducible refine Or.inr ?_))
    rw [← hQ]
    exact post_cell (id := 1) (x := zeroMI) (.inl rfl) rfl o_imodel (by simp [upd_app] <;> omega) (by simp [upd_app]) (by simp [upd_app]) ld_imodel (by simp [upd_app] <;> omega) (by simp [AV.pure, AV.pureL]) rfl
  have d1 : decide (r < 0) = false := by simpa using n1
  by_cases n2 : k < 0
  · rw [hb (fun h => absurd n2 (Rat.not_lt.2 h.2.2.2.2.2.1))]
    have d2 : decide (k < 0) = true := by simpa using n2
    (refine callOk_of_wpc (W := fun _ => false) false hm' Tryz.func14 rfl (by kernel_rfl) (Nat.le_of_ble_eq_true rfl) (go_start ?_); generalize hQ : Post Tryz.prog Tryz.f14 _ _ _ _ _ = Q; simp only [stIn, matL, matA, st00])
    simp (disch := omega) only [go_sem, ↓k_cond, ↓x_idx, ↓k_block, Nat.reduceEqDiff, Nat.reduceBEq, ↓reduceIte, reduceCtorEq, hpos, r3, r4, d1, d2]
    (repeat (with_reducible refine Or.inr ?_))
    rw [← hQ]
    exact post_cell (id := 1) (x := zeroMI) (.inl rfl) rfl o_imodel (by simp [upd_app] <;> omega) (by simp [upd_app]) (by simp [upd_app]) ld_imodel (by simp [upd_app] <;> omega) (by simp [AV.pure, AV.pureL]) rfl
  have d2 : decide (k < 0) = false := by simpa using n2
  by_cases hr : ¬ (1 ≤ m.room ∧ m.room ≤ 8)
  · have hr' : decide (1 ≤ m.room ∧ m.room ≤ 8) = false := by simpa using hr
    rw [hb (fun h => hr ⟨h.1, h.2.1⟩)]
    (refine callOk_of_wpc (W := fun _ => false) false hm' Tryz.func14 rfl (by kernel_rfl) (Nat.le_of_ble_eq_true rfl) (go_start ?_); generalize hQ : Post Tryz.prog Tryz.f14 _ _ _ _ _ = Q; simp only [stIn, matL, matA, st00])
    simp (disch := omega) only [go_sem, ↓k_cond, ↓x_idx, ↓k_block, Nat.reduceEqDiff, Nat.reduceBEq, ↓reduceIte, reduceCtorEq, hpos, r3, r4, d1, d2, hr']
    (repeat (with_reducible refine Or.inr ?_))
    rw [← hQ]
    exact post_cell (id := 1) (x := zeroMI) (.inl rfl) rfl o_imodel (by simp [upd_app] <;> omega) (by simp [upd_app]) (by simp [upd_app]) ld_imodel (by simp [upd_app] <;> omega) (by simp [AV.pure, AV.pureL]) rfl
  have hr' : decide (1 ≤ m.room ∧ m.room ≤ 8) = true := by simpa using hr
  have hr2 : 1 ≤ m.room ∧ m.room ≤ 8 := by simpa using hr
  have hgt := cmpR_gt (a := c + s) (b := 1)
  generalize cmpR (c + s) 1 = cc at *
  by_cases n3 : 0 < cc
  · rw [hb (fun h => absurd (hgt.1 n3) (Rat.not_lt.2 h.2.2.2.2.2.2))]
    (refine callOk_of_wpc (W := fun _ => false) false hm' Tryz.func14 rfl (by kernel_rfl) (Nat.le_of_ble_eq_true rfl) (go_start ?_); generalize hQ : Post Tryz.prog Tryz.f14 _ _ _ _ _ = Q; simp only [stIn, matL, matA, st00])
    simp (disch := omega) only [go_sem, ↓k_cond, ↓x_idx, ↓k_block, Nat.reduceEqDiff, Nat.reduceBEq, ↓reduceIte, reduceCtorEq, hpos, r3, r4, d1, d2, hr', hsum, hone, hcmp, ratL, List.map_cons, List.map_nil]
    (repeat (with_reducible refine Or.inr ?_))
    rw [← hQ]
    exact post_cell (id := 1) (x := zeroMI) (.inl rfl) rfl o_imodel (by simp [upd_app] <;> omega) (by simp [upd_app]) (by simp [upd_app]) ld_imodel (by simp [upd_app] <;> omega) (by simp [AV.pure, AV.pureL]) rfl
  have hok : modOk m c s r k := ⟨hr2.1, hr2.2, q1.2, q2.2, Rat.not_lt.1 n1, Rat.not_lt.1 n2, Rat.not_lt.1 (fun h => n3 (hgt.2 h))⟩
  have hmod : modR m = some ⟨m.room.toNat, c, s, r, k⟩ := by simp only [modR, q1.1, q2.1, e3, e4, if_pos hok]
  have hrn : ((m.room.toNat : Nat) : Int) = m.room := Int.toNat_of_nonneg (by have := hok.1; omega)
  rw [hmod, modI_s]
  (refine callOk_of_wpc (W := fun _ => false) false hm' Tryz.func14 rfl (by kernel_rfl) (Nat.le_of_ble_eq_true rfl) (go_start ?_); generalize hQ : Post Tryz.prog Tryz.f14 _ _ _ _ _ = Q; simp only [stIn, matL, matA, st00])
  simp (maxSteps := 2000000) (disch := omega) only [go_sem, ↓k_cond, ↓x_idx, ↓k_block, Nat.reduceEqDiff, Nat.reduceBEq, ↓reduceIte, reduceCtorEq, hpos, r3, r4, d1, d2, hr', hsum, hone, hcmp, ratL, List.map_cons, List.map_nil]
  (repeat (with_reducible refine Or.inr ?_))
  rw [← hQ]
  exact post_cell (id := 1) (x := MR.iv ⟨m.room.toNat, c, s, r, k⟩) (.inl rfl) rfl o_imodel (by simp [upd_app] <;> omega) (by simp [upd_app]) (by simp [upd_app, hrn]) ld_imodel (by simp [upd_app] <;> omega) (by simp [AV.pure, AV.pureL]) rfl
attribute [go_sem] w_positives
def Mdl.lens (m : Mdl) : Prop := m.come.length < 4611686018427387904 ∧ m.serve.length < 4611686018427387904 ∧ m.reward.length < 4611686018427387904 ∧ m.cost.length < 4611686018427387904
def szM (m : Mdl) (l : Int) : Int :=
  if l - m.come.length < 0 then -1 else if l - m.come.length - m.serve.length < 0 then -1 else if l - m.come.length - m.serve.length - m.reward.length < 0 then -1
  else if l - m.come.length - m.serve.length - m.reward.length - m.cost.length < 0 then -1 else l - m.come.length - m.serve.length - m.reward.length - m.cost.length
theorem szM_small {m : Mdl} {l : Int} (h0 : l ≤ 1000000) (h : ¬ szM m l < 0) : m.small := by
  unfold szM at h
  unfold Mdl.small
  split at h
  · omega
  · split at h
    · omega
    · split at h
      · omega
      · split at h <;> omega
theorem l_szModel (m : Mdl) (l : Int) (h0 : 0 ≤ l) (h1 : l ≤ 1000000) (hl : m.lens) :
    CW Tryz.prog 4 [m.av, .int .i64 l] (.int .i64 (szM m l)) := by
  refine cw (by kernel_rfl) (by simp [AV.pure, AV.pureL, natA_pure, natI_pure, natS_pure]) (by simp [AV.pure, AV.pureL, natA_pure, natI_pure, natS_pure]) ?_
  obtain ⟨l1, l2, l3, l4⟩ := hl
  unfold szM
  by_cases c1 : l - m.come.length < 0
  · rw [if_pos c1]
    (refine callOk_of_wpc (W := fun _ => false) false hm' Tryz.func4 rfl (by kernel_rfl) (Nat.le_of_ble_eq_true rfl) (go_start ?_); generalize hQ : Post Tryz.prog Tryz.f4 _ _ _ _ _ = Q; simp only [stIn, matL, matA, st00])
    simp (disch := omega) only [go_sem, ↓k_cond, ↓x_idx, ↓k_block, Nat.reduceEqDiff, Nat.reduceBEq, ↓reduceIte, reduceCtorEq]
    rw [← hQ]
    exact post_one (.inl rfl) rfl (by simp [upd_app] <;> omega) rfl
  by_cases c2 : l - m.come.length - m.serve.length < 0
  · rw [if_neg c1, if_pos c2]
    (refine callOk_of_wpc (W := fun _ => false) false hm' Tryz.func4 rfl (by kernel_rfl) (Nat.le_of_ble_eq_true rfl) (go_start ?_); generalize hQ : Post Tryz.prog Tryz.f4 _ _ _ _ _ = Q; simp only [stIn, matL, matA, st00])
    simp (disch := omega) only [go_sem, ↓k_cond, ↓x_idx, ↓k_block, Nat.reduceEqDiff, Nat.reduceBEq, ↓reduceIte, reduceCtorEq]
    rw [← hQ]
    exact post_one (.inl rfl) rfl (by simp [upd_app] <;> omega) rfl
  by_cases c3 : l - m.come.length - m.serve.length - m.reward.length < 0
  · rw [if_neg c1, if_neg c2, if_pos c3]
    (refine callOk_of_wpc (W := fun _ => false) false hm' Tryz.func4 rfl (by kernel_rfl) (Nat.le_of_ble_eq_true rfl) (go_start ?_); generalize hQ : Post Tryz.prog Tryz.f4 _ _ _ _ _ = Q; simp only [stIn, matL, matA, st00])
    simp (disch := omega) only [go_sem, ↓k_cond, ↓x_idx, ↓k_block, Nat.reduceEqDiff, Nat.reduceBEq, ↓reduceIte, reduceCtorEq]
    rw [← hQ]
    exact post_one (.inl rfl) rfl (by simp [upd_app] <;> omega) rfl
  rw [if_neg c1, if_neg c2, if_neg c3]
  by_cases c4 : l - m.come.length - m.serve.length - m.reward.length - m.cost.length < 0
  · rw [if_pos c4]
    (refine callOk_of_wpc (W := fun _ => false) false hm' Tryz.func4 rfl (by kernel_rfl) (Nat.le_of_ble_eq_true rfl) (go_start ?_); generalize hQ : Post Tryz.prog Tryz.f4 _ _ _ _ _ = Q; simp only [stIn, matL, matA, st00])
    simp (disch := omega) only [go_sem, ↓k_cond, ↓x_idx, ↓k_block, Nat.reduceEqDiff, Nat.reduceBEq, ↓reduceIte, reduceCtorEq]
    rw [← hQ]
    exact post_one (.inl rfl) rfl (by simp [upd_app] <;> omega) rfl
  · rw [if_neg c4]
    (refine callOk_of_wpc (W := fun _ => false) false hm' Tryz.func4 rfl (by kernel_rfl) (Nat.le_of_ble_eq_true rfl) (go_start ?_); generalize hQ : Post Tryz.prog Tryz.f4 _ _ _ _ _ = Q; simp only [stIn, matL, matA, st00])
    simp (disch := omega) only [go_sem, ↓k_cond, ↓x_idx, ↓k_block, Nat.reduceEqDiff, Nat.reduceBEq, ↓reduceIte, reduceCtorEq]
    rw [← hQ]
    exact post_one (.inl rfl) rfl (by simp [upd_app] <;> omega) rfl
theorem l_toModel (m : Mdl) :
    CW Tryz.prog 6 [m.av] m.av := by
  refine cw (by kernel_rfl) (by simp [AV.pure, AV.pureL, natA_pure, natI_pure, natS_pure]) (by simp [AV.pure, AV.pureL, natA_pure, natI_pure, natS_pure]) ?_
  (refine callOk_of_wpc (W := fun _ => false) false hm' Tryz.func6 rfl (by kernel_rfl) (Nat.le_of_ble_eq_true rfl) (go_start ?_); generalize hQ : Post Tryz.prog Tryz.f6 _ _ _ _ _ = Q; simp only [stIn, matL, matA, st00])
  simp (disch := omega) only [go_sem, ↓k_cond, ↓x_idx, ↓k_block, Nat.reduceEqDiff, Nat.reduceBEq, ↓reduceIte, reduceCtorEq]
  rw [← hQ]
  exact post_cell1 (id := 1) (x := m.av) (.inl rfl) rfl o_iModel (by simp [upd_app] <;> omega) (by simp [upd_app]) (by simp [upd_app]) ld_iModel rfl
section
open Go Go.ChangeShapes Go.WideShapes Go.ChangeAt Go.RowKit
inductive Cl where
  | bool
  | int (k : IntKind)
  | str
  | sl (e : Nat) (c : Cl)

def Cl.fit (P : Program) : Cl → TypeId → Prop
  | .bool, t => P.underlying t = some .bool
  | .int k, t => P.underlying t = some (.int k)
  | .str, t => P.underlying t = some .string
  | .sl e c, t => P.underlying t = some (.slice e) ∧ P.cellsOf e = 1 ∧ szT P e = 1 ∧ 0 < P.bytesOf e ∧ c.fit P e

def isC : Cl → AV → Prop
  | .bool, x => ∃ b, x = .bool b
  | .int k, x => ∃ n, x = .int k n ∧ (Lit.int k n).wf = true
  | .str, x => ∃ s, x = .str s ∧ s.length < 4611686018427387904
  | .sl e c, x => ∃ xs, x = .sl e xs [] false ∧ xs.length < 4611686018427387904 ∧ ∀ y ∈ xs, isC c y
def isCL : List Cl → List AV → Prop
  | [], xs => xs = []
  | c :: cs, xs => ∃ x r, xs = x :: r ∧ isC c x ∧ isCL cs r
inductive Ty where
  | cell (c : Cl)
  | st (cs : List Cl)
def isT : Ty → AV → Prop
  | .cell c, x => isC c x
  | .st cs, x => ∃ xs, x = .agg xs ∧ isCL cs xs
def isTL : List Ty → List AV → Prop
  | [], xs => xs = []
  | c :: cs, xs => ∃ x r, xs = x :: r ∧ isT c x ∧ isTL cs r
def stFit (P : Program) : Nat → List Field → List Cl → Prop
  | _, [], [] => True
  | j, f :: fs, c :: cs => f.offset = j ∧ P.cellsOf f.type = 1 ∧ c.fit P f.type ∧ stFit P (j + 1) fs cs
  | _, _, _ => False
def Ty.fit (P : Program) : Ty → TypeId → Prop
  | .cell c, t => c.fit P t
  | .st cs, t => ∃ fs, P.underlying t = some (.struct fs) ∧ P.cellsOf t = fs.size ∧ stFit P 0 fs.toList cs
def tysFit (P : Program) : List Ty → List TypeId → Prop
  | [], [] => True
  | y :: ys, t :: ts => y.fit P t ∧ tysFit P ys ts
  | _, _ => False

theorem isC_one {c : Cl} {x : AV} (h : isC c x) : x.pure = true ∧ x.one = true ∧ x.cells = [x] := by
  induction c generalizing x with
  | bool => obtain ⟨b, rfl⟩ := h; exact ⟨rfl, rfl, rfl⟩
  | int k => obtain ⟨b, rfl, _⟩ := h; exact ⟨rfl, rfl, rfl⟩
  | str => obtain ⟨b, rfl, _⟩ := h; exact ⟨rfl, rfl, rfl⟩
  | sl e c ih =>
    obtain ⟨xs, rfl, hlen, h⟩ := h
    refine ⟨?_, rfl, rfl⟩
    simp only [AV.pure, AV.pureL, Bool.and_true]
    clear hlen
    induction xs with
    | nil => rfl
    | cons y ys ih' => simp only [AV.pureL, Bool.and_eq_true]; exact ⟨(ih (h y (by simp))).1, ih' fun z hz => h z (by simp [hz])⟩
theorem isCL_pure : ∀ {cs : List Cl} {xs : List AV}, isCL cs xs → AV.pureL xs = true
  | [], xs, h => by simp only [isCL] at h; subst h; rfl
  | c :: cs, xs, h => by
    obtain ⟨x, r, rfl, h1, h2⟩ := h
    simp only [AV.pureL, Bool.and_eq_true]; exact ⟨(isC_one h1).1, isCL_pure h2⟩
theorem isT_pure {y : Ty} {x : AV} (h : isT y x) : x.pure = true := by
  cases y with
  | cell c => exact (isC_one h).1
  | st cs => obtain ⟨xs, rfl, h⟩ := h; simp only [AV.pure]; exact isCL_pure h

theorem pick {Q : Nat → Value → AV → Prop} {n : Nat} (h : ∀ i, i < n → ∃ v x, Q i v x) : ∃ (vs : List Value) (xs : List AV), vs.length = n ∧ xs.length = n ∧ ∀ i v x, vs[i]? = some v → xs[i]? = some x → Q i v x := by
  induction n with
  | zero => exact ⟨[], [], rfl, rfl, fun i v x hv => by simp at hv⟩
  | succ n ih =>
    obtain ⟨vs, xs, h1, h2, h3⟩ := ih fun i hi => h i (by omega)
    obtain ⟨v, x, hq⟩ := h n (by omega)
    refine ⟨vs ++ [v], xs ++ [x], by simp [h1], by simp [h2], fun i v' x' hv hx => ?_⟩
    by_cases hi : i < n
    · rw [List.getElem?_append_left (by omega)] at hv hx
      exact h3 i v' x' hv hx
    · have hi' : i = n := by
        have := (List.getElem?_eq_some_iff.1 hv).1
        simp at this
        omega
      subst hi'
      rw [List.getElem?_append_right (by omega), h1, Nat.sub_self] at hv
      rw [List.getElem?_append_right (by omega), h2, Nat.sub_self] at hx
      simp only [List.getElem?_cons_zero, Option.some.injEq] at hv hx
      subst hv; subst hx
      exact hq

theorem blk_of {w : World} {a : Addr} {n : Nat} {vs : List Value} (hn : vs.length = n) (h0 : n ≠ 0) (hc : ∀ i v, vs[i]? = some v → w.cell? (a.add i) = some v) :
    a.spot = none ∧ ∃ c e f, w.heap[a.block]? = some (.cells c e f) ∧ ∀ i v, vs[i]? = some v → c[a.off + i]? = some v := by
  obtain ⟨v0, hv0⟩ : ∃ v, vs[0]? = some v := ⟨vs[0]'(by omega), by simp [List.getElem?_eq_getElem (show 0 < vs.length by omega)]⟩
  have h0 := hc 0 v0 hv0
  simp only [Addr.add, ↓reduceIte, World.cell?] at h0
  split at h0
  · rename_i c e f hb
    split at h0
    · cases h0
    · rename_i hs
      refine ⟨by simpa using hs, c, e, f, hb, fun i v hi => ?_⟩
      by_cases hi0 : i = 0
      · subst hi0
        rw [hv0] at hi; cases hi
        simpa using h0
      · have := hc i v hi
        simp only [Addr.add, if_neg hi0, World.cell?, hb] at this
        simpa using this
  · cases h0

section
variable {H : Type} {enc : TypeId × Value → H} {P : Program} {W : World} {R : Nat → Prop}

theorem open_cell : ∀ (c : Cl) {t : TypeId} {fuel : Nat} {cs : List Value} {d : DataW H} {ps : List MemPlace}, c.fit P t → DataW.trod enc P W 0 (fun _ => true) true fuel t cs = some (d, ps) →
    (∀ n ∈ d.weights P t, n ≤ reachBytes) → (∀ p ∈ ps, R p.block) → ∃ v x, cs = [v] ∧ isC c x ∧ rep P (bare W R) x v ∧ v.cells = #[v]
  | .bool, t, fuel, cs, d, ps, hf, h, hw, hp => by
    obtain ⟨b, rfl, _⟩ := DataW.trod_bool hf h
    exact ⟨_, .bool b, rfl, ⟨b, rfl⟩, by simp [rep], rfl⟩
  | .int k, t, fuel, cs, d, ps, hf, h, hw, hp => by
    obtain ⟨n, rfl, _, h1⟩ := DataW.trod_int hf h
    exact ⟨_, .int k n, rfl, ⟨n, rfl, h1⟩, by simp [rep], rfl⟩
  | .str, t, fuel, cs, d, ps, hf, h, hw, hp => by
    obtain ⟨s, rfl, hx, _⟩ := DataW.trod_string hf h
    simp only [Prod.mk.injEq] at hx
    obtain ⟨rfl, _⟩ := hx
    have := hw s.data.toList.length (by simp [DataW.weights])
    have hr : reachBytes = 140737488351232 := rfl
    exact ⟨_, .str s.data.toList, rfl, ⟨_, rfl, by omega⟩, by simp [rep], rfl⟩
  | .sl e c, t, fuel, cs, d, ps, hf, h, hw, hp => by
    obtain ⟨f1, f2, f3, f4, f5⟩ := hf
    rcases DataW.trod_slice f1 h with ⟨rfl, hx⟩ | ⟨a, len, cap, elems, rest, n, _, rfl, hx, hb, hl, hm, hlen, hel, hsp, _⟩
    · refine ⟨_, .sl e [] [] false, rfl, ⟨[], rfl, by simp, by simp⟩, ?_, rfl⟩
      simp only [rep]
      exact ⟨none, 0, rfl, by simp, by simp, by simp, [], [], rfl, rfl, by simp⟩
    simp only [Prod.mk.injEq] at hx
    obtain ⟨rfl, rfl⟩ := hx
    obtain ⟨hrl, _⟩ := hsp rfl
    rw [f2] at hel hp
    simp only [Nat.mul_one] at hel hp
    have hw1 : len * P.bytesOf e ≤ reachBytes := by
      have := hw ((elems.length + rest.length) * P.bytesOf e) (by simp [DataW.weights, f1])
      exact Nat.le_trans (Nat.mul_le_mul_right _ (by omega)) this
    have hlen' : len < 4611686018427387904 := by
      have hr : reachBytes = 140737488351232 := rfl
      have := Nat.le_mul_of_pos_right len f4
      omega
    have hblk : len ≠ 0 → R a.block := fun hne => hp (.cell a.block (a.off + 0)) (by
      simp only [List.mem_append, MemPlace.row, List.mem_map, List.mem_range]
      exact .inl ⟨0, by omega, rfl⟩)
    have each : ∀ i, i < len → ∃ v x, W.cell? (a.add i) = some v ∧ isC c x ∧ rep P (bare W R) x v ∧ v.cells = #[v] := by
      intro i hi
      have hy := hel i hi
      obtain ⟨y, hy'⟩ : ∃ y, elems[i]? = some y := ⟨elems[i]'(by omega), by simp [List.getElem?_eq_getElem (show i < elems.length by omega)]⟩
      rw [hy', Option.bind_eq_some_iff] at hy
      obtain ⟨cs', hcs, hz⟩ := hy
      have hmem : y ∈ elems := List.mem_of_getElem? hy'
      obtain ⟨v, x, rfl, h2, h3, h4⟩ := open_cell c f5 hz (fun n hn => hw n (by
        simp only [DataW.weights, f1, List.mem_cons, List.mem_append]
        exact .inr (.inl (mem_all hmem hn)))) (fun p hp' => hp p (by
        simp only [List.mem_append, List.mem_flatMap]
        exact .inr ⟨y, .inl hmem, hp'⟩))
      exact ⟨v, x, cell_of_cells?_one hcs, h2, h3, h4⟩
    obtain ⟨vs, xs, k1, k2, k3⟩ := pick each
    have hx : ∀ y ∈ xs, isC c y := by
      intro y hy
      obtain ⟨i, hi⟩ := List.getElem?_of_mem hy
      have hlt : i < vs.length := by have := (List.getElem?_eq_some_iff.1 hi).1; omega
      exact (k3 i vs[i] y (List.getElem?_eq_getElem hlt) hi).2.1
    have hv : ∀ (i : Nat) (v : Value), vs[i]? = some v → W.cell? (a.add i) = some v ∧ v.cells = #[v] := by
      intro i v hi
      have hlt : i < xs.length := by have := (List.getElem?_eq_some_iff.1 hi).1; omega
      have := k3 i v xs[i] hi (List.getElem?_eq_getElem hlt)
      exact ⟨this.1, this.2.2.2⟩
    refine ⟨_, .sl e xs [] false, rfl, ⟨xs, rfl, by omega, hx⟩, ?_, rfl⟩
    simp only [rep]
    refine ⟨some a, cap, by rw [k2], by simpa [k2] using hl, by simp, ?_, vs, [], repL_mk (k1.trans k2.symm) fun i x v h1 h2 => (k3 i v x h2 h1).2.2.1, by simp [repL], fun hne => ?_⟩
    · intro y hy
      rw [List.append_nil] at hy
      have := isC_one (hx y hy)
      simp [AV.el, this.2.1, this.2.2, f3]
    · have hne' : len ≠ 0 := by rw [k2] at hne; simpa using hne
      obtain ⟨hs, cc, ee, ff, hh, hc⟩ := blk_of k1 hne' fun i v hi => (hv i v hi).1
      refine ⟨a.block, a.off, cc, (ee, ff), by cases a; simp_all, hblk hne', hh, fun i v hi => ?_⟩
      rw [List.append_nil] at hi
      rw [(hv i v hi).2, f3]
      refine ⟨by simp, fun j u hj => ?_⟩
      have hj0 : j = 0 ∧ u = v := by cases j <;> simp_all
      obtain ⟨rfl, rfl⟩ := hj0
      simpa using hc i u hi
where
  mem_all {e : TypeId} {y : DataW H × List MemPlace} {n : Nat} : ∀ {elems : List (DataW H × List MemPlace)}, y ∈ elems → n ∈ y.1.weights P e → n ∈ DataW.weightsAll P e (elems.map (·.1))
    | z :: elems, hm, hn => by
      simp only [List.map_cons, DataW.weightsAll, List.mem_append]
      rcases List.mem_cons.1 hm with rfl | hm
      · exact .inl hn
      · exact .inr (mem_all hm hn)

theorem open_fields {n : Nat} {vs : List Value} : ∀ (cs : List Cl) (fs : List Field) (j : Nat) (xs : List (DataW H × List MemPlace)), stFit P j fs cs → vs.length = j + fs.length → xs.length = fs.length →
    (∀ (i : Nat) (f : Field), fs[i]? = some f → DataW.trod enc P W 0 (fun _ => true) true n f.type ((vs.drop f.offset).take (P.cellsOf f.type)) = xs[i]?) →
    (∀ n ∈ DataW.weightsEach P (fs.map (·.type)) (xs.map (·.1)), n ≤ reachBytes) → (∀ p ∈ xs.flatMap (·.2), R p.block) → ∃ avs, isCL cs avs ∧ repL P (bare W R) avs (vs.drop j)
  | [], [], j, xs, _, hl, _, _, _, _ => ⟨[], rfl, by
      have hl : vs.length = j := by simpa using hl
      simp [repL, ← hl]⟩
  | c :: cs, f :: fs, j, y :: xs, ⟨h1, h2, h3, h4⟩, hl, hx, ht, hw, hp => by
    have h0 := ht 0 f rfl
    simp only [List.length_cons] at hl hx
    rw [h1, h2, List.getElem?_cons_zero] at h0
    obtain ⟨v, x, k1, k2, k3, k4⟩ := open_cell (R := R) c h3 h0 (fun n hn => hw n (by simp [DataW.weightsEach, hn])) (fun p hp' => hp p (by simp [hp']))
    have hx' : xs.length = fs.length := by omega
    obtain ⟨avs, q1, q2⟩ := open_fields (vs := vs) cs fs (j + 1) xs h4 (by omega) hx' (fun i f' hi => by simpa using ht (i + 1) f' (by simpa using hi)) (fun n hn => hw n (by simp [DataW.weightsEach, hn])) (fun p hp' => hp p (by
      simp only [List.flatMap_cons, List.mem_append]; exact .inr hp'))
    have hd : vs.drop j = v :: vs.drop (j + 1) := by
      have hj : j < vs.length := by omega
      rw [List.drop_eq_getElem_cons hj] at k1 ⊢
      simp only [List.take_succ_cons, List.take_zero, List.cons.injEq, and_true] at k1
      rw [k1]
    refine ⟨x :: avs, ⟨x, avs, rfl, k2, q1⟩, ?_⟩
    rw [hd]
    exact ⟨v, _, rfl, k3, q2⟩
  | [], _ :: _, _, _, h, _, _, _, _, _ => by simp [stFit] at h
  | _ :: _, [], _, _, h, _, _, _, _, _ => by simp [stFit] at h
  | _ :: _, _ :: _, _, [], _, _, h, _, _, _ => by simp at h

theorem one_okWide {c : Cl} {t : TypeId} {base : Nat} {v : Value} (hf : c.fit P t) (h : Value.okWide P W .any base t v) : v.cells = #[v] := by
  cases c with
  | bool => obtain ⟨b, rfl⟩ := okWide_bool hf h; rfl
  | int k => obtain ⟨b, rfl⟩ := okWide_int hf h; rfl
  | str => obtain ⟨b, rfl⟩ := okWide_string hf h; rfl
  | sl e c => obtain ⟨a, b, d, rfl⟩ := okWide_slice hf.1 h; rfl

theorem open_type {y : Ty} {t : TypeId} {base : Nat} {v : Value} {d : DataW H} {ps : List MemPlace} (hf : y.fit P t) (hok : Value.okWide P W .any base t v) (h : DataW.Trod enc P W 0 (fun _ => true) true t v d ps)
    (hw : ∀ n ∈ d.weights P t, n ≤ reachBytes) (hp : ∀ p ∈ ps, R p.block) : ∃ x, isT y x ∧ rep P (bare W R) x v := by
  obtain ⟨fuel, h⟩ := h
  cases y with
  | cell c =>
    obtain ⟨u, x, k1, k2, k3, k4⟩ := open_cell c hf h hw hp
    rw [one_okWide hf hok] at k1
    simp only [List.cons.injEq, and_true] at k1
    subst k1
    exact ⟨x, k2, k3⟩
  | st cs =>
    obtain ⟨fs, f1, f2, f3⟩ := hf
    obtain ⟨xs, n, _, hx, hl, hlen, hfd⟩ := DataW.trod_struct f1 h
    simp only [Prod.mk.injEq] at hx
    obtain ⟨rfl, rfl⟩ := hx
    simp only [Value.okWide, f1] at hok
    obtain ⟨vs, rfl, _, _⟩ := hok
    obtain ⟨avs, k1, k2⟩ := open_fields (R := R) (vs := vs.toList) cs fs.toList 0 xs f3 (by rw [f2] at hl; simpa [Value.cells] using hl) (by simpa using hlen) (fun i f hi => hfd i f (by simpa using hi)) (by simpa [DataW.weights, f1] using hw) hp
    exact ⟨.agg avs, ⟨avs, rfl, k1⟩, by simp only [rep]; exact ⟨vs.toList, by simp, by simpa using k2⟩⟩

theorem open_all {base : Nat} : ∀ {ys : List Ty} {ts : List TypeId} {vs : List Value} {ds : List (DataW H)} {ps : List MemPlace}, tysFit P ys ts → DataW.TrodAll enc P W 0 (fun _ => true) true ts vs ds ps →
    (∀ (j : Nat) t v, ts[j]? = some t → vs[j]? = some v → Value.okWide P W .any base t v) → (∀ n ∈ DataW.weightsEach P ts ds, n ≤ reachBytes) → (∀ p ∈ ps, R p.block) →
    ∃ xs, isTL ys xs ∧ ownRL P (bare W R) xs vs []
  | [], [], vs, ds, ps, _, h, _, _, _ => by
    obtain ⟨rfl, rfl, rfl⟩ := trodAll_nil h
    exact ⟨[], rfl, by simp [ownRL]⟩
  | y :: ys, t :: ts, vs, ds, ps, ⟨f1, f2⟩, h, hok, hw, hp => by
    obtain ⟨v, vs', d, ds', p, q, rfl, rfl, rfl, h1, h2⟩ := trodAll_cons h
    obtain ⟨x, k1, k2⟩ := open_type (R := R) f1 (hok 0 t v rfl rfl) h1 (fun n hn => hw n (by simp [DataW.weightsEach, hn])) (fun p hp' => hp p (by simp [hp']))
    obtain ⟨xs, k3, k4⟩ := open_all f2 h2 (fun j t v ht hv => hok (j + 1) t v (by simpa using ht) (by simpa using hv)) (fun n hn => hw n (by simp [DataW.weightsEach, hn])) (fun p hp' => hp p (by simp [hp']))
    refine ⟨x :: xs, ⟨x, xs, rfl, k1, k3⟩, ?_⟩
    simp only [ownRL]
    exact ⟨v, vs', [], [], rfl, rfl, ownR_of_pure x v (isT_pure k1) k2, k4⟩
  | [], _ :: _, _, _, _, h, _, _, _, _ => by simp [tysFit] at h
  | _ :: _, [], _, _, _, h, _, _, _, _ => by simp [tysFit] at h

def LawOk (P : Program) (f : FuncId) (ys : List Ty) : Prop := ∀ xs, isTL ys xs → CallOk P f xs (.bool true) []

theorem tab_lt {k : IntKind} {zs : List Int} {g : Nat} (h : Lib.TabIs P W tabName k zs) (hg : P.globalNamed tabName = some g) : g < W.heap.size := by
  unfold Lib.TabIs World.var? at h
  rw [hg, Option.bind_some] at h
  split at h
  · rename_i he; exact lt_of_heap he
  · cases h
theorem LawOk.walk {f : FuncId} {ys : List Ty} {ts : List TypeId} {args : Array Value} {ds : List (DataW H)} {ps : List MemPlace} {base : Nat} (hf : LawOk P f ys) (hy : tysFit P ys ts)
    (h : DataW.TrodAll enc P W 0 (fun _ => true) true ts args.toList ds ps) (hok : ∀ (j : Nat) t v, ts[j]? = some t → args.toList[j]? = some v → Value.okWide P W .any base t v)
    (hw : (DataW.weightsEach P ts ds).all (· ≤ reachBytes) = true) (hlt : ∀ p ∈ ps, p.block < W.heap.size) (htab : ∀ g, P.globalNamed tabName = some g → Lib.TabIs P W tabName .u64 tabNums) :
    Calls P f args W fun e w' => e = .returned (.bool true) ∧ Below W.heap.size W w' := by
  obtain ⟨xs, h1, h2⟩ := open_all (R := fun b => b < W.heap.size) hy h hok (fun n hn => by simpa using List.all_eq_true.1 hw n hn) (fun p hp => hlt p hp)
  have := hf xs h1 W _ _ _ ⟨fun _ h => h, fun g hg => ⟨tab_lt (htab g hg) hg, htab g hg⟩⟩ h2 (by simp)
  rw [Array.toArray_toList] at this
  refine this.mono fun e w' hp => ?_
  obtain ⟨v, I', L', rfl, q1, _, _, _, q5, _⟩ := hp
  have : v = .bool true := by simp only [ownR, rep] at q5; exact q5.2
  exact ⟨by rw [this], q1.os, q1.tape, q1.output, q1.size, fun k hk => q1.same k hk (by simp)⟩
end

section
variable {H : Type} {enc : TypeId × Value → H} {P : Program} {W : World}
theorem trodAll_lt : ∀ {ts : List TypeId} {vs : List Value} {ds : List (DataW H)} {ps : List MemPlace}, DataW.TrodAll enc P W 0 (fun _ => true) true ts vs ds ps → ∀ p ∈ ps, p.block < W.heap.size
  | [], _, _, _, h => by obtain ⟨_, _, rfl⟩ := trodAll_nil h; simp
  | _ :: _, _, _, _, h => by
    obtain ⟨v, vs', d, ds', p, q, rfl, rfl, rfl, ⟨m, h1⟩, h2⟩ := trodAll_cons h
    intro x hx
    rcases List.mem_append.1 hx with hx | hx
    · exact DataW.trod_lt m _ _ _ h1 x hx
    · exact trodAll_lt h2 x hx
theorem trodAll_below {W' : World} (hl : laidOutB P = true) (hb : Below W.heap.size W W') : ∀ {ts : List TypeId} {vs : List Value} {ds : List (DataW H)} {ps : List MemPlace}, ts.all (fun t => P.readableRec t && decide (t < P.types.size)) = true →
    DataW.TrodAll enc P W 0 (fun _ => true) true ts vs ds ps → (∀ p ∈ ps, p.block < W.heap.size) → DataW.TrodAll enc P W' 0 (fun b => decide (b < W.heap.size)) true ts vs ds ps
  | [], _, _, _, _, h, _ => by obtain ⟨rfl, rfl, rfl⟩ := trodAll_nil h; rfl
  | t :: ts, _, _, _, hr, h, hlt => by
    obtain ⟨v, vs', d, ds', p, q, rfl, rfl, rfl, h1, h2⟩ := trodAll_cons h
    simp only [List.all_cons, Bool.and_eq_true, decide_eq_true_eq] at hr
    exact trodAll_cons_mk (Below.trod hl hr.1.1 hr.1.2 h1 hb fun x hx => hlt x (by simp [hx])) (trodAll_below hl hb hr.2 h2 fun x hx => hlt x (by simp [hx]))
theorem trodAll_len : ∀ {ts : List TypeId} {vs : List Value} {ds : List (DataW H)} {ps : List MemPlace}, DataW.TrodAll enc P W 0 (fun _ => true) true ts vs ds ps → ds.length = ts.length
  | [], _, _, _, h => by obtain ⟨_, rfl, _⟩ := trodAll_nil h; rfl
  | _ :: _, _, _, _, h => by
    obtain ⟨v, vs', d, ds', p, q, rfl, rfl, rfl, _, h2⟩ := trodAll_cons h
    simp [trodAll_len h2]

theorem laid_plain {P : Program} {l : List (String × DataW Unit)} {w : World} (hp : (l.filter fun x => x.2.handleName?.isSome) = []) (h : laidMetH P l w) : laidMet P l w := by
  unfold laidMetH at h; rw [hp] at h; exact h
theorem laid_drop {P : Program} {w : World} : ∀ {l : List (String × DataW Unit)} (k : Nat), laidMet P l w → laidMet P (l.drop k) w
  | _, 0, h => h
  | [], _ + 1, h => h
  | _ :: _, k + 1, h => laid_drop k h.tail
theorem tab_of_laid {P : Program} {l : List (String × DataW Unit)} {w : World} {g n : Nat} {t e : TypeId} (k : Nat) (hg : P.globalNamed tabName = some g) (hty : (P.globals[g]?).map (·.type) = some t) (ht : P.underlying t = some (.array n e)) (he : P.underlying e = some (.int .u64))
    (hce : P.cellsOf e = 1) (hct : P.cellsOf t = n) (hp : (l.filter fun x => x.2.handleName?.isSome) = []) (hk : l.drop k = (tabName, Lib.tabData .u64 tabNums) :: l.drop (k + 1)) (h : laidMetH P l w) : ∀ g', P.globalNamed tabName = some g' → Lib.TabIs P w tabName .u64 tabNums := fun _ _ => by
  have h1 := laid_drop k (laid_plain hp h)
  rw [hk] at h1
  exact Lib.tabIs_of_head hg hty ht he hce hct h1
theorem LawOk.lifted {C : Checked} {os : Os} (own : ownKnob C.prog.godebug = none) (started : os.Started) {f : FuncId} {fn : Func} {s : ChangeSpec} {apart : Bool} {X : World → Array Value → Prop} {ys : List Ty}
    {ts : List TypeId} {rt : TypeId} (hf : LawOk C.prog f ys) (hX : ∀ (w w' : World) (args : Array Value), w.heap = w'.heap → X w args → X w' args) (hT : ∀ (w : World) (args : Array Value), X w args → ∀ g, C.prog.globalNamed tabName = some g → Lib.TabIs C.prog w tabName .u64 tabNums) (noInit : C.prog.inits.idxOf? f = none) (hfn : C.prog.funcs[f]? = some fn)
    (hps : fn.params = ts.toArray) (hrs : fn.resultTypes = #[rt]) (hrt : C.prog.underlying rt = some .bool) (hy : tysFit C.prog ys ts) (hl : laidOutB C.prog = true) (hr : ts.all (fun t => C.prog.readableRec t && decide (t < C.prog.types.size)) = true)
    (hv : s.vars = []) (hs : ∀ ds : List (DataW H), ds.length = ts.length → s.fn H ds = { results := [.lit (.bool true)], args := ds })
    (witness : ∃ (w : World) (tape : Tape) (i : Input), w.os = os ∧ (w.forCall tape i).Shaped C.prog ∧ i.vars = [] ∧ Input.okWide C.prog (w.forCall tape i) .any w.heap.size f i ∧
      ((s.pre enc C.prog fn [] apart (w.forCall tape i).memory i.args ∧ X (w.forCall tape i).memory i.args) ∧ sizedMet enc C.prog fn (OpenSpec.ofChange s) apart (w.forCall tape i).memory i.args) ∧ ({} : Assume).holds C.prog (lone (Frame.enter C.prog f i.args .normal) [] (w.forCall tape i))) :
    ReturnsInHanded {} C os f .any (fun w args => (s.pre enc C.prog fn [] apart w args ∧ X w args) ∧ sizedMet enc C.prog fn (OpenSpec.ofChange s) apart w args) (s.post enc C.prog fn apart true false false) := by
  refine returnsInHanded_of_change_and (X := X) hX own started noInit hfn witness ?_
  intro W base args ds gs before hval hW _ hsz hXW _
  have hW' := hW
  obtain ⟨p, q, hA, hV, rfl, hfz, hnd⟩ := hW
  rw [hv] at hV
  obtain ⟨rfl, rfl⟩ := trodVars_none hV
  rw [hps] at hA hsz hval
  have hts : ts.toArray.toList = ts := by simp
  rw [hts] at hA hsz
  have hlt := trodAll_lt hA
  have hvt : s.plain.varTypes C.prog = [] := by simp [ChangeSpec.plain, DataSpec.varTypes, hv]
  rw [hvt, List.append_nil, List.append_nil] at hsz
  refine (hf.walk hy hA (fun j t v ht hv' => hval j t v (by simpa using ht) (by simpa using hv')) hsz hlt (hT W args hXW)).mono fun e W' ⟨he, bel⟩ => ?_
  subst he
  have hsd := hs ds (trodAll_len hA)
  refine ⟨_, rfl, ds, [], _, [], p, [], hW', ?_, ?_, ?_, bel.frame _, fun h => by cases h⟩
  · rw [List.append_nil, hsd, hrs]
    exact trodAll_mk1 (shut_bool hrt _)
  · rw [List.append_nil, hsd, hps, hts]
    exact trodAll_below hl bel hr hA hlt
  · rw [List.append_nil, hsd, hv]
    rfl
end
end
end Go.Proofs.YthmdjijacoafeaaGreatDoor
