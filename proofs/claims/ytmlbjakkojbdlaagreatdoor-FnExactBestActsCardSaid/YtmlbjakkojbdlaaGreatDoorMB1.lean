/- A part of the proof that stands in YtmlbjakkojbdlaaGreatDoorMB3. -/
import Derived.Lib.ItoaNum
import Derived.Test.YtmlbjakkojbdlaaGreatDoorM11

set_option linter.unusedVariables false
set_option linter.unusedSimpArgs false
set_option maxRecDepth 100000
namespace Go.Proofs.YtmlbjakkojbdlaaGreatDoor
open Go


theorem rI_re {m n : Nat} {q : Rat} (h1 : fits m q) (h2 : fits n q) : rI m q = rI n q := by rw [rI_eq h1, rI_eq h2]
theorem rS_re {m n : Nat} {q : Rat} (h1 : fits m q) (h2 : fits n q) : rS m q = rS n q := by rw [rS_eq h1, rS_eq h2]
def optT : Option (List UInt8) → AV
 | some s => .tup [.str s, .bool true]
 | none => .tup [.str [], .bool false]
theorem optT_s (s : List UInt8) : optT (some s) = .tup [.str s, .bool true] := rfl
theorem optT_n : optT none = .tup [.str [], .bool false] := rfl
def mapF (n : Nat) (f : Nat → Rat) : List Rat := (List.range n).map f
theorem mapF_succ {n : Nat} {f : Nat → Rat} : mapF (n + 1) f = mapF n f ++ [f n] := by simp [mapF, List.range_succ]
theorem mapF_len {n : Nat} {f : Nat → Rat} : (mapF n f).length = n := by simp [mapF]
theorem mapF_at {n i : Nat} {f : Nat → Rat} (h : i < n) : (mapF n f)[i]? = some (f i) := by simp [mapF, h]


theorem getD_of {qs : List Rat} {i : Nat} {q : Rat} (h : qs[i]? = some q) : qs.getD i 0 = q := by rw [List.getD_eq_getElem?_getD, h]; rfl
def cd (D N : Nat) (q : Rat) : Prop := D ≠ 0 ∧ ∃ p : Int, q = mkRat p D ∧ p.natAbs ≤ N
theorem cd_zero {D N : Nat} (h : D ≠ 0) : cd D N 0 := ⟨h, 0, by simp, by simp⟩
theorem cd_mono {D N N' : Nat} {q : Rat} (h : cd D N q) (hn : N ≤ N') : cd D N' q := by
 obtain ⟨h1, p, h2, h3⟩ := h
 exact ⟨h1, p, h2, Nat.le_trans h3 hn⟩
theorem cd_add {D M N : Nat} {a b : Rat} (ha : cd D M a) (hb : cd D N b) : cd D (M + N) (a + b) := by
 obtain ⟨h1, p, h2, h3⟩ := ha
 obtain ⟨_, q, h5, h6⟩ := hb
 refine ⟨h1, p + q, add_common h2 h5, ?_⟩
 have := Int.natAbs_add_le p q
 omega
theorem cd_mul {D E M N : Nat} {a b : Rat} (ha : cd D M a) (hb : cd E N b) : cd (D * E) (M * N) (a * b) := by
 obtain ⟨h1, p, rfl, h3⟩ := ha
 obtain ⟨h4, q, rfl, h6⟩ := hb
 refine ⟨Nat.mul_ne_zero h1 h4, p * q, Rat.mkRat_mul_mkRat _ _ _ _, ?_⟩
 rw [Int.natAbs_mul]
 exact Nat.mul_le_mul h3 h6
theorem cd_lift {D E N : Nat} {q : Rat} (h : cd D N q) (he : E ≠ 0) : cd (D * E) (N * E) q := by
 obtain ⟨h1, p, rfl, h3⟩ := h
 refine ⟨Nat.mul_ne_zero h1 he, p * E, (Rat.mkRat_mul_right he).symm, ?_⟩
 rw [Int.natAbs_mul, Int.natAbs_natCast]
 exact Nat.mul_le_mul_right _ h3
theorem cd_fits {D N n : Nat} {q : Rat} (h : cd D N q) (hD : D < 2 ^ n) (hN : N < 2 ^ n) (hn : 0 < n) : fits n q := by
 obtain ⟨_, p, rfl, h3⟩ := h
 exact fits_mkRat (Nat.lt_of_le_of_lt h3 hN) hD hn
theorem cd_of {m : Nat} {q : Rat} (h : fits m q) : cd q.den (2 ^ m) q := ⟨q.den_nz, q.num, (Rat.mkRat_self q).symm, Nat.le_of_lt h.1⟩
theorem cd_list {m : Nat} : ∀ (qs : List Rat), (∀ q ∈ qs, fits m q) → ∃ D, D ≠ 0 ∧ D ≤ 2 ^ (m * qs.length) ∧ ∀ q ∈ qs, cd D (2 ^ (m * qs.length + m)) q
  | [], _ => ⟨1, by decide, by simp, by simp⟩
  | a :: qs, h => by
    obtain ⟨D, h1, h2, h3⟩ := cd_list qs fun q hq => h q (by simp [hq])
    have ha := h a (by simp)
    have e : m * (a :: qs).length = m + m * qs.length := by rw [List.length_cons, Nat.mul_succ]; omega
    refine ⟨a.den * D, Nat.mul_ne_zero a.den_nz h1, ?_, fun q hq => ?_⟩
    · rw [e, Nat.pow_add]
      exact Nat.mul_le_mul (Nat.le_of_lt ha.2) h2
    · rw [e]
      rcases List.mem_cons.1 hq with rfl | hq
      · refine cd_mono (cd_lift (cd_of ha) h1) ?_
        rw [show m + m * qs.length + m = m + (m * qs.length + m) by omega, Nat.pow_add]
        exact Nat.mul_le_mul (Nat.le_refl _) (Nat.le_trans h2 (Nat.pow_le_pow_right (by decide) (by omega)))
      · have := cd_lift (h3 q hq) (E := a.den) a.den_nz
        rw [Nat.mul_comm] at this
        refine cd_mono this ?_
        rw [show m + m * qs.length + m = (m * qs.length + m) + m by omega, Nat.pow_add 2 (m * qs.length + m) m]
        exact Nat.mul_le_mul (Nat.le_refl _) (Nat.le_of_lt ha.2)
theorem getD_out {qs : List Rat} {i : Nat} (h : qs.length ≤ i) : qs.getD i 0 = 0 := by rw [List.getD_eq_getElem?_getD, List.getElem?_eq_none h]; rfl
theorem zero_fits (m : Nat) (hm : 0 < m) : fits m 0 := fits_int (n := 0) (by simpa using Nat.pow_pos (by decide)) hm
theorem two_pow_le {a b k K : Nat} (h : a ≤ 2 ^ b) (hk : b * k ≤ K) : a ^ k ≤ 2 ^ K :=
 Nat.le_trans (Nat.pow_le_pow_left h k) (by rw [← Nat.pow_mul]; exact Nat.pow_le_pow_right (by decide) hk)
theorem two_pow_lt {a b c : Nat} (h : a ≤ 2 ^ b) (hb : b < c) : a < 2 ^ c := Nat.lt_of_le_of_lt h (Nat.pow_lt_pow_right (by decide) hb)
theorem mul_pow_le {L k a : Nat} (h : L ≤ 2 ^ k) : L * 2 ^ a ≤ 2 ^ (k + a) := by rw [Nat.pow_add]; exact Nat.mul_le_mul_right _ h
def betB (x : MR) (v : List Rat) (n : Nat) : Bool := decide (v.getD n 0 ≤ x.reward + v.getD (n + 1) 0)
def stayR (x : MR) : Rat := 1 - x.come - x.serve
def comR (x : MR) (v : List Rat) (b : Bool) (n : Nat) : Rat := if n < x.room ∧ b = true then x.reward + v.getD (n + 1) 0 else v.getD n 0
def plnF (x : MR) (v : List Rat) (act : Nat → Bool) (n : Nat) : Rat :=
 -(x.cost * ((n : Int) : Rat)) + x.come * comR x v (act n) n + x.serve * v.getD (n - 1) 0 + stayR x * v.getD n 0
def plnL (x : MR) (v : List Rat) (act : Nat → Bool) : List Rat := mapF (x.room + 1) (plnF x v act)
def valL (x : MR) : Nat → List Rat
 | 0 => List.replicate (x.room + 1) 0
 | t + 1 => plnL x (valL x t) (betB x (valL x t))
theorem valL_len {x : MR} : ∀ t, (valL x t).length = x.room + 1
 | 0 => by simp [valL]
 | t + 1 => mapF_len
def betL (x : MR) (v : List Rat) : List Bool := (List.range x.room).map (betB x v)
theorem betL_len {x : MR} {v : List Rat} : (betL x v).length = x.room := by simp [betL]
def bestT (m : Mdl) (h : Int) : Option (List Bool) :=
 match modR m with
 | some x => if 1 ≤ h ∧ h ≤ 24 then some (betL x (valL x (h.toNat - 1))) else none
 | none => none
theorem bestT_len {m : Mdl} {h : Int} {bs : List Bool} (hb : bestT m h = some bs) : bs.length ≤ 8 := by
  unfold bestT at hb
  cases hx : modR m with
  | none => rw [hx] at hb; cases hb
  | some x =>
    rw [hx] at hb
    simp only at hb
    split at hb
    · cases hb
      obtain ⟨_, _, _, _, _, h6, _⟩ := modR_fits hx
      rw [betL_len]; exact h6
    · cases hb
theorem cd_neg {D N : Nat} {q : Rat} (h : cd D N q) : cd D N (-q) := by
 obtain ⟨h1, p, rfl, h3⟩ := h
 exact ⟨h1, -p, by rw [Rat.neg_mkRat], by rw [Int.natAbs_neg]; exact h3⟩
theorem cd_one {D : Nat} (h : D ≠ 0) : cd D D 1 := by
 have := cd_lift (D := 1) (N := 1) (q := 1) ⟨by decide, 1, by rfl, by decide⟩ h
 simpa using this
theorem cd_int {n : Nat} : cd 1 n ((n : Int) : Rat) := ⟨by decide, n, by rw [Rat.mkRat_one], by simp⟩
theorem pln_cd {D A : Nat} {x : MR} {v : List Rat} {act : Nat → Bool} {t : Nat} (hD : D ≠ 0) (hDA : D ≤ A) (hc : cd D A x.come) (hs : cd D A x.serve) (hr : cd D A x.reward) (hk : cd D A x.cost) (h8 : x.room ≤ 8) (hv : ∀ i, cd (D ^ (t + 1)) ((16 * A) ^ (t + 1)) (v.getD i 0)) (n : Nat) (hn : n ≤ 8) :
    cd (D ^ (t + 2)) ((16 * A) ^ (t + 2)) (plnF x v act n) := by
  have hP : ∀ k, D ^ k ≠ 0 := fun k => Nat.ne_of_gt (Nat.pow_pos (Nat.pos_of_ne_zero hD))
  have hAK : ∀ k, D ^ k ≤ (16 * A) ^ k := fun k => Nat.pow_le_pow_left (by omega) k
  have e2 : D ^ (t + 2) = D * D ^ (t + 1) := by rw [Nat.pow_succ D (t + 1), Nat.mul_comm]
  have e1 : D ^ (t + 1) = D * D ^ t := by rw [Nat.pow_succ, Nat.mul_comm]
  obtain ⟨K, hK⟩ : ∃ K, (16 * A) ^ (t + 1) = K := ⟨_, rfl⟩
  have eK : (16 * A) ^ (t + 2) = 16 * (A * K) := by rw [Nat.pow_succ _ (t + 1), hK, Nat.mul_comm K, Nat.mul_assoc]
  rw [hK] at hv
  have hDK : D ^ (t + 1) ≤ K := by rw [← hK]; exact hAK (t + 1)
  have hADK : A * D ^ t ≤ K := by
    rw [← hK, Nat.pow_succ, Nat.mul_comm ((16 * A) ^ t)]
    exact Nat.mul_le_mul (by omega) (hAK t)
  -- the cost
  have c1 : cd (D ^ (t + 2)) (8 * (A * K)) (-(x.cost * ((n : Int) : Rat))) := by
    have h1 := cd_lift (cd_mul hk (cd_int (n := n))) (hP (t + 1))
    rw [Nat.mul_one, ← e2] at h1
    refine cd_neg (cd_mono h1 ?_)
    calc A * n * D ^ (t + 1) ≤ A * 8 * K := Nat.mul_le_mul (Nat.mul_le_mul_left _ hn) hDK
      _ = 8 * (A * K) := by rw [Nat.mul_comm A 8, Nat.mul_assoc]
  have mv : ∀ (p : Rat) (c i : Nat), cd D (c * A) p → cd (D ^ (t + 2)) (c * (A * K)) (p * v.getD i 0) := fun p c i hp => by
    have h1 := cd_mul hp (hv i)
    rw [← e2] at h1
    exact cd_mono h1 (Nat.le_of_eq (Nat.mul_assoc _ _ _))
  have one : ∀ {p : Rat}, cd D A p → cd D (1 * A) p := fun hp => by rw [Nat.one_mul]; exact hp
  have c2 : cd (D ^ (t + 2)) (2 * (A * K)) (x.come * comR x v (act n) n) := by
    unfold comR
    split
    · rw [Rat.mul_add]
      have h1 := cd_lift (cd_mul hc hr) (hP t)
      rw [Nat.mul_assoc D D, ← e1, ← e2] at h1
      have h2 : cd (D ^ (t + 2)) (1 * (A * K)) (x.come * x.reward) := cd_mono h1 (by rw [Nat.one_mul, Nat.mul_assoc]; exact Nat.mul_le_mul_left _ hADK)
      have := cd_add h2 (mv _ 1 (n + 1) (one hc))
      exact cd_mono this (by omega)
    · exact cd_mono (mv _ 1 n (one hc)) (by omega)
  have c3 : cd (D ^ (t + 2)) (1 * (A * K)) (x.serve * v.getD (n - 1) 0) := mv _ 1 (n - 1) (one hs)
  have hst : cd D (3 * A) (stayR x) := by
    unfold stayR
    have := cd_add (cd_add (cd_one hD) (cd_neg hc)) (cd_neg hs)
    rw [← Rat.sub_eq_add_neg, ← Rat.sub_eq_add_neg] at this
    exact cd_mono this (by omega)
  have c4 : cd (D ^ (t + 2)) (3 * (A * K)) (stayR x * v.getD n 0) := mv _ 3 n hst
  have := cd_add (cd_add (cd_add c1 c2) c3) c4
  rw [eK]
  exact cd_mono this (by omega)
theorem val_cd {D A : Nat} {x : MR} (hD : D ≠ 0) (hDA : D ≤ A) (hc : cd D A x.come) (hs : cd D A x.serve) (hr : cd D A x.reward) (hk : cd D A x.cost) (h8 : x.room ≤ 8) : ∀ t i, cd (D ^ (t + 1)) ((16 * A) ^ (t + 1)) ((valL x t).getD i 0)
  | 0, i => by
    have : (valL x 0).getD i 0 = 0 := by
      rw [valL, List.getD_eq_getElem?_getD, List.getElem?_replicate]; split <;> rfl
    rw [this]
    exact cd_zero (Nat.ne_of_gt (Nat.pow_pos (Nat.pos_of_ne_zero hD)))
  | t + 1, i => by
    have ih := val_cd hD hDA hc hs hr hk h8 t
    rcases Nat.lt_or_ge i (x.room + 1) with h | h
    · rw [valL, plnL, getD_of (mapF_at h)]
      exact pln_cd hD hDA hc hs hr hk h8 ih i (by omega)
    · rw [getD_out (by rw [valL_len]; exact h)]
      exact cd_zero (Nat.ne_of_gt (Nat.pow_pos (Nat.pos_of_ne_zero hD)))
def bigV : Nat := 90000
theorem val_fits {x : MR} (hc : fits 700 x.come) (hs : fits 700 x.serve) (hr : fits 700 x.reward) (hk : fits 700 x.cost) (h8 : x.room ≤ 8) {t : Nat} (ht : t ≤ 24) : ∀ i, fits bigV ((valL x t).getD i 0) := by
 obtain ⟨D, hD, hDl, hcd⟩ := cd_list (m := 700) [x.come, x.serve, x.reward, x.cost] (by
  intro q hq
  simp only [List.mem_cons, List.not_mem_nil, or_false] at hq
  rcases hq with rfl | rfl | rfl | rfl <;> assumption)
 obtain ⟨B, hB⟩ : ∃ B, B = 700 * [x.come, x.serve, x.reward, x.cost].length := ⟨_, rfl⟩
 have hB2 : B = 2800 := by rw [hB]; rfl
 rw [← hB] at hDl hcd
 obtain ⟨C, hC⟩ : ∃ C, C = B + 700 := ⟨_, rfl⟩
 rw [← hC] at hcd
 have hDA : D ≤ 2 ^ C := Nat.le_trans hDl (Nat.pow_le_pow_right (by decide) (by omega))
 intro i
 have h := val_cd hD hDA (hcd _ (by simp)) (hcd _ (by simp)) (hcd _ (by simp)) (hcd _ (by simp)) h8 t i
 have hK : 16 * 2 ^ C ≤ 2 ^ (4 + C) := mul_pow_le (by decide)
 have e1 := Nat.mul_le_mul (show C ≤ 3500 by omega) (show t + 1 ≤ 25 by omega)
 have e2 := Nat.mul_le_mul (show 4 + C ≤ 3504 by omega) (show t + 1 ≤ 25 by omega)
 exact cd_fits h (two_pow_lt (two_pow_le hDA (K := C * (t + 1)) (Nat.le_refl _)) (by unfold bigV; omega)) (two_pow_lt (two_pow_le hK (K := (4 + C) * (t + 1)) (Nat.le_refl _)) (by unfold bigV; omega)) (by unfold bigV; omega)
def optB (ex : Bool) : Option (List Bool) → AV
 | some bs => .tup [.own 4 (boolA bs) [] ex, .bool true]
 | none => .tup [.nil, .bool false]
theorem boolA_solid : ∀ bs : List Bool, AV.solidL (boolA bs) = true
 | [] => rfl
 | b :: bs => by rw [boolA, List.map_cons, AV.solidL]; simpa [AV.solid, boolA] using boolA_solid bs
theorem optB_solid (ex : Bool) (o : Option (List Bool)) : (optB ex o).solid = true := by
 cases o with
 | none => rfl
 | some bs => simp [optB, AV.solid, AV.solidL, boolA_solid]
theorem t_rows : elT Tryz.prog 101 = some 59 := by kernel_rfl
theorem o_rats : okT Tryz.prog 59 = true := by kernel_rfl
theorem g_rats : aggT Tryz.prog 59 = false := by kernel_rfl
theorem in_rats : (Tryz.prog.info? 59).isSome = true := by kernel_rfl
theorem s_rats : szT Tryz.prog 59 = 1 := by kernel_rfl
theorem zk_rats : zokT Tryz.prog 59 = true := by kernel_rfl
theorem u_rats : u32T Tryz.prog 59 = false := by kernel_rfl
theorem el_rats {t : Nat} {xs sp : List AV} {ex : Bool} : AV.el Tryz.prog 59 (.sl t xs sp ex) = true := by simp [AV.el, s_rats, AV.cells, AV.one]
attribute [go_sem] t_rows o_rats g_rats in_rats s_rats zk_rats u_rats el_rats
theorem z_rats : zeroA Tryz.prog 59 = some .nil := by kernel_rfl
theorem el_ratsN : AV.el Tryz.prog 59 .nil = true := by simp [AV.el, s_rats, AV.cells, AV.one]
attribute [go_sem] z_rats el_ratsN
theorem t_rowsS : elT Tryz.prog 91 = some 48 := by kernel_rfl
theorem o_ratsS : okT Tryz.prog 48 = true := by kernel_rfl
theorem g_ratsS : aggT Tryz.prog 48 = false := by kernel_rfl
theorem in_ratsS : (Tryz.prog.info? 48).isSome = true := by kernel_rfl
theorem s_ratsS : szT Tryz.prog 48 = 1 := by kernel_rfl
theorem zk_ratsS : zokT Tryz.prog 48 = true := by kernel_rfl
theorem u_ratsS : u32T Tryz.prog 48 = false := by kernel_rfl
attribute [go_sem] t_rowsS o_ratsS g_ratsS in_ratsS s_ratsS zk_ratsS u_ratsS
theorem z_ratsS : zeroA Tryz.prog 48 = some .nil := by kernel_rfl
attribute [go_sem] z_ratsS
theorem x_callC {P : Program} {W : FuncId → Bool} {ops : Array Oper} {os : List Oper} {fr : Nat → AV} {h : Nat → Blk} {nx : Nat} {K : St → Prop} {d : Option Tmp} {t tm : Nat} {p : String} {af : Array Edge} {g : FuncId} {first cap : List AV} {args : Array Operand} {ts : Array TypeId}
    (hf : fr tm = .fn (.func g) first cap) (hW : W g = false) : wpos P W ops (⟨d, .call { callee := .value (.tmp tm), args := args, argTypes := ts }, t, p, af, none⟩ :: os) ⟨fr, h, nx⟩ K =
    callW P W g (first ++ args.toList.map (evA fr) ++ cap) ⟨d, ops, os, fr, h, nx, K⟩ .mk := by
  simp only [wpos, wpo, guardA, opK, callW, ValCall]
  have e : St.ev ⟨fr, h, nx⟩ = evA fr := by funext x; rfl
  refine propext ⟨fun hw => ?_, fun hw => ⟨fun _ => ?_, by simp⟩⟩
  · obtain ⟨x, st', ⟨g', first', cap', h1, h2, h3, h4, h5⟩, hk⟩ := hw.1 trivial
    have h1' : AV.fn (.func g) first cap = AV.fn (.func g') first' cap' := hf.symm.trans h1
    injection h1' with e1 e2 e3
    injection e1 with e1
    subst e1; subst e2; subst e3
    rw [e] at h3 h5
    exact ⟨h2, x, st', by simpa using h3, fun _ => h4 rfl, fun _ hp h nx => by simpa using h5 rfl (by simpa using hp) h nx, hk⟩
  · obtain ⟨h2, x, st', h3, h4, h5, hk⟩ := hw
    exact ⟨x, st', ⟨g, first, cap, hf, h2, by rw [e]; simpa using h3, fun _ => h4 hW, fun _ hp h nx => by rw [e] at hp ⊢; simpa using h5 hW (by simpa using hp) h nx⟩, hk⟩
mutual
theorem rep_cut2 {P : Program} {E E' : Env} {h : Nat → Blk} {nx : Nat} (hE : E.nx = nx) (hh : ∀ i, i < nx → h i = E'.h i ∨ (h i).lv = false ∧ (h i).xs.length = (E.h i).xs.length) : ∀ (x : AV) (v0 v : Value), rep P E x v0 → rep P E' x v → rep P ⟨E'.w, E'.I, E'.m, h, nx⟩ x v
  | .undef, _, _, _, _ => by simp [rep]
  | .bool b, _, v, _, k => by simpa [rep] using k
  | .int i n, _, v, _, k => by simpa [rep] using k
  | .str s, _, v, _, k => by simpa [rep] using k
  | .nil, _, v, _, k => by simpa [rep] using k
  | .sl t xs sp ex, v0, v, k0, k => by
    simp only [rep] at k0 k ⊢
    obtain ⟨_, _, _, _, _, _, ws, us', m4, m5, _⟩ := k0
    obtain ⟨a, cap, h1, h2, h3, h7, vs, us, h4, h5, h6⟩ := k
    exact ⟨a, cap, h1, h2, h3, h7, vs, us, repL_cut2 hE hh xs ws vs m4 h4, repL_cut2 hE hh sp us' us m5 h5, h6⟩
  | .ref id n off len, v0, v, k0, k => by
    simp only [rep] at k0 k ⊢
    have hlt : id < nx := by rw [← hE]; exact k0.1
    obtain ⟨_, h2, ad, kk, hv, h3⟩ := k
    rcases hh id hlt with e | ⟨e1, e2⟩
    · rw [e]; exact ⟨hlt, h2, ad, kk, hv, h3⟩
    · exact ⟨hlt, by rw [e2]; exact k0.2.1, ad, kk, hv, fun hl => by rw [e1] at hl; cases hl⟩
  | .own .., _, _, _, k => by simp [rep] at k
  | .ptr id n i j, v0, v, k0, k => by
    simp only [rep] at k0 k ⊢
    have hlt : id < nx := by rw [← hE]; exact k0.1
    obtain ⟨_, h2, ad, hv, h3⟩ := k
    rcases hh id hlt with e | ⟨e1, e2⟩
    · rw [e]; exact ⟨hlt, h2, ad, hv, h3⟩
    · exact ⟨hlt, by rw [e2]; exact k0.2.1, ad, hv, fun hl => by rw [e1] at hl; cases hl⟩
  | .cptr t x j, v0, v, k0, k => by
    simp only [rep] at k0 k ⊢
    obtain ⟨_, _, _, _, u0, _, _, _, m4, _⟩ := k0
    obtain ⟨b, off, c, fz, u, h1, h2, h3, h4, h6, h5⟩ := k
    exact ⟨b, off, c, fz, u, h1, h2, h3, rep_cut2 hE hh x u0 u m4 h4, h6, h5⟩
  | .fn f first cap, v0, v, k0, k => by
    simp only [rep] at k0 k ⊢
    obtain ⟨ws, us', _, m2, m3⟩ := k0
    obtain ⟨vs, us, h1, h2, h3⟩ := k
    exact ⟨vs, us, h1, repL_cut2 hE hh first ws vs m2 h2, repL_cut2 hE hh cap us' us m3 h3⟩
  | .agg cs, v0, v, k0, k => by
    simp only [rep] at k0 k ⊢
    obtain ⟨ws, _, m2⟩ := k0
    obtain ⟨vs, h1, h2⟩ := k
    exact ⟨vs, h1, repL_cut2 hE hh cs ws vs m2 h2⟩
  | .tup xs, v0, v, k0, k => by
    simp only [rep] at k0 k ⊢
    obtain ⟨ws, _, m2⟩ := k0
    obtain ⟨vs, h1, h2⟩ := k
    exact ⟨vs, h1, repL_cut2 hE hh xs ws vs m2 h2⟩
theorem repL_cut2 {P : Program} {E E' : Env} {h : Nat → Blk} {nx : Nat} (hE : E.nx = nx) (hh : ∀ i, i < nx → h i = E'.h i ∨ (h i).lv = false ∧ (h i).xs.length = (E.h i).xs.length) : ∀ (xs : List AV) (vs0 vs : List Value), repL P E xs vs0 → repL P E' xs vs → repL P ⟨E'.w, E'.I, E'.m, h, nx⟩ xs vs
  | [], _, vs, _, k => by simpa [repL] using k
  | x :: xs, vs0, vs, k0, k => by
    simp only [repL] at k0 k ⊢
    obtain ⟨v0, us0, _, m2, m3⟩ := k0
    obtain ⟨v, us, h1, h2, h3⟩ := k
    exact ⟨v, us, h1, rep_cut2 hE hh x v0 v m2 h2, repL_cut2 hE hh xs us0 us m3 h3⟩
end

def cutH (h h' : Nat → Blk) (nx : Nat) (eat : List Nat) : Nat → Blk := fun i => if i ∈ eat then { h i with lv := false } else if i < nx then h' i else h i
def PostE (P : Program) (fn : Func) (x : AV) (h' : Nat → Blk) (nx : Nat) (eat : List Nat) (e : Ex) (st : St) : Prop :=
 (match e with | .exit _ => False | _ => True) ∧ resV P st fn.results.toList = some x ∧ (∀ i, i < nx → i ∉ eat → st.h i = h' i) ∧ nx ≤ st.nx
def Stays (P : Program) (x : AV) (h2 : Nat → Blk) (nx : Nat) (eat : List Nat) : Prop :=
 ∀ (E' : Env) (v : Value), (∀ i, i < nx → i ∉ eat → h2 i = E'.h i) → rep P E' x v → rep P ⟨E'.w, E'.I, E'.m, h2, nx⟩ x v
theorem cut_core {P : Program} {E E' : Env} {h h' : Nat → Blk} {nx : Nat} {eat fz : List Nat} (hE : Ok P E) (hE' : Ok P E') (hle : E.Le E') (hgo : Goes P E E') (hh : h = E.h) (hnx : nx = E.nx) (h1 : ∀ i, i < nx → i ∉ eat → E'.h i = h' i)
    (hh' : ∀ i, i < nx → i ∉ eat → h' i = h i ∨ AV.pureL (h' i).xs = true) (hfz : ∀ i ∈ fz, nx ≤ i) :
    E.Le ⟨E'.w, (E'.shut fz).I, E'.m, cutH h h' nx eat, nx⟩ ∧ Ok P ⟨E'.w, (E'.shut fz).I, E'.m, cutH h h' nx eat, nx⟩ ∧ Goes P E ⟨E'.w, (E'.shut fz).I, E'.m, cutH h h' nx eat, nx⟩ ∧
      (∀ i, i < nx → i ∉ eat → cutH h h' nx eat i = E'.h i) ∧ ∀ i, (cutH h h' nx eat i).lv = true → i < nx := by
  obtain ⟨H, hH⟩ : ∃ H, cutH h h' nx eat = H := ⟨_, rfl⟩
  rw [hH]
  have hsame : ∀ i, i < nx → i ∉ eat → H i = E'.h i := fun i hi he => by rw [← hH, cutH, if_neg he, if_pos hi]; exact (h1 i hi he).symm
  have hate : ∀ i, i ∈ eat → (H i).lv = false ∧ (H i).xs = (E.h i).xs ∧ (H i).gr = (E.h i).gr := fun i hi => by rw [← hH, cutH, if_pos hi, hh]; exact ⟨rfl, rfl, rfl⟩
  have hdead : ∀ i, nx ≤ i → (H i).lv = false := fun i hi => by
    by_cases he : i ∈ eat
    · exact (hate i he).1
    · rw [← hH, cutH, if_neg he, if_neg (by omega)]
      cases hl : (h i).lv with
      | false => rfl
      | true => have := (hE.blk i (by rw [← hh]; exact hl)).lt; omega
  have hcut : ∀ i, i < nx → H i = E'.h i ∨ (H i).lv = false ∧ (H i).xs.length = (E.h i).xs.length := fun i hi => by
    by_cases he : i ∈ eat
    · exact .inr ⟨(hate i he).1, by rw [(hate i he).2.1]⟩
    · exact .inl (hsame i hi he)
  have hlt : ∀ i, (H i).lv = true → i < nx := fun i hl => by
    rcases Nat.lt_or_ge i nx with h | h
    · exact h
    · rw [hdead i h] at hl; cases hl
  have hlive : ∀ i, (H i).lv = true → i < nx ∧ i ∉ eat ∧ H i = E'.h i := fun i hl => by
    have h2 : i ∉ eat := fun he => by rw [(hate i he).1] at hl; cases hl
    exact ⟨hlt i hl, h2, hsame i (hlt i hl) h2⟩
  have hnew : ∀ i ∈ fz, (E'.h i).lv = true → E.w.heap.size ≤ (E'.m i).b := fun i hi hl => by
    rcases hgo.locs i hl with ⟨a, _⟩ | ⟨a, _⟩
    · have := (hE.blk i a).lt
      have := hfz i hi
      omega
    · exact a
  refine ⟨⟨by rw [hnx]; exact Nat.le_refl _, fun b hb => ⟨.inl (hle.imm b hb).1, (hle.imm b hb).2⟩, fun id hid => ?_, fun id hid n hn k1 k2 => ?_⟩, ⟨fun id hl => ?_, fun i j hi hj e => ?_, fun b hb => ?_, ?_⟩,
    ⟨hgo.os, hgo.tape, hgo.output, hgo.size, hgo.keep, hgo.part, fun id hl => ?_, fun b hb => ?_, by rw [hnx]; exact Nat.le_refl _, fun id hid => ?_⟩, hsame, hlt⟩
  · by_cases he : id ∈ eat
    · simp only [(hate id he).2.1]; exact Nat.le_refl _
    · simp only [hsame id (by omega) he]; exact hle.len id hid
  · simp only at k1 k2 ⊢
    obtain ⟨a1, a2, a3⟩ := hlive id k1
    rw [a3] at k1 k2 ⊢
    exact hle.prv id hid n hn k1 k2
  · simp only at hl
    obtain ⟨a1, a2, a3⟩ := hlive id hl
    have hl' : (E'.h id).lv = true := by rw [← a3]; exact hl
    have hB := hE'.blk id hl'
    obtain ⟨c, ws, g1, g2, g3, g4⟩ := hB.at_
    refine ⟨a1, by simp only [a3]; exact hB.gr, by simp only [a3]; exact hB.ex, by simp only [a3]; exact hB.le, by simp only [a3]; exact hB.cl, ?_, c, ws, by simp only [a3]; exact g1, ?_, by simp only [a3]; exact g3, by simp only [a3]; exact g4⟩
    · rintro (hd | ⟨i, hi, k1, k2⟩)
      · exact hB.dark hd
      · have := hE'.inj i id k1 hl' k2
        have := hfz i hi
        omega
    simp only [a3]
    rcases hh' id a1 a2 with e | e
    · have e1 : E'.h id = E.h id := by rw [← a3, ← hH, cutH, if_neg a2, if_pos a1, e, hh]
      have hlE : (E.h id).lv = true := by rw [← e1]; exact hl'
      obtain ⟨c0, ws0, _, g02, _, _⟩ := (hE.blk id hlE).at_
      rw [e1] at g2 ⊢
      exact repL_cut2 (E' := E'.shut fz) hnx.symm hcut _ ws0 ws g02 (repL_mono (E := E') (E' := E'.shut fz) ⟨Nat.le_refl _, fun b hb => ⟨.inl hb, rfl⟩, fun _ _ => Nat.le_refl _, fun _ _ _ _ h1 h2 => ⟨h1, h2, rfl, rfl⟩⟩ _ _ g2)
    · have hp : AV.pureL (E'.h id).xs = true := by rw [← a3, ← hH, cutH, if_neg a2, if_pos a1]; exact e
      exact repL_pure (E := E') (E' := ⟨E'.w, (E'.shut fz).I, E'.m, H, nx⟩) (fun b hb => ⟨.inl hb, rfl⟩) _ _ hp g2
  · simp only at hi hj e
    obtain ⟨_, _, a3⟩ := hlive i hi
    obtain ⟨_, _, b3⟩ := hlive j hj
    exact hE'.inj i j (by rw [← a3]; exact hi) (by rw [← b3]; exact hj) e
  · rcases hb with hb | ⟨i, hi, k1, k2⟩
    · exact hE'.imm b hb
    · obtain ⟨c, ws, g1, _⟩ := (hE'.blk i k1).at_
      rw [← k2]; exact lt_of_heap g1
  · exact hE'.tab.step fun b hb => ⟨.inl hb, rfl⟩
  · simp only at hl ⊢
    obtain ⟨_, _, a3⟩ := hlive id hl
    have := hgo.locs id (by rw [← a3]; exact hl)
    simpa only [Env.lim, a3] using this
  · rcases hb with hb | ⟨i, hi, k1, k2⟩
    · exact hgo.dark b hb
    · exact .inr (.inl (by rw [← k2]; exact hnew i hi k1))
  · by_cases he : id ∈ eat
    · exact (hate id he).2.2
    · simp only [hsame id (by omega) he]; exact hgo.grs id hid
theorem rel_in {P : Program} {E : Env} {args : List AV} {h : Nat → Blk} {nx nt : Nat} {vs : List Value} (hE : Ok P E) (hh : h = E.h) (hnx : nx = E.nx) (has : repL P E args vs) :
    Rel P E ⟨fun i => args.getD i .undef, h, nx⟩ { tmps := vs.toArray ++ Array.replicate (nt - vs.toArray.size) undef, defers := [] } := by
  have hargl : args.length = vs.length := (repL_length has).symm
  refine ⟨hE, hh, hnx, fun t => ?_⟩
  by_cases ht : t < args.length
  · have h1 : args[t]? = some (args[t]'(by omega)) := List.getElem?_eq_getElem (by omega)
    obtain ⟨v, hv, hr⟩ := repL_get has t _ h1
    simp only [List.getD_eq_getElem?_getD, h1]
    rw [Array.getD_eq_getD_getElem?, Array.getElem?_append_left (by simp; omega)]
    have : vs.toArray[t]? = some v := by simpa using hv
    rw [this]; exact hr
  · simp only [List.getD_eq_getElem?_getD]
    rw [List.getElem?_eq_none (by omega)]
    simp [rep]
section
variable {P : Program} {W : WP} {f : FuncId} {fn : Func} {c : Code} {args : List AV} {x : AV} {fr : Nat → AV} {h h' : Nat → Blk} {nx : Nat} {eat : List Nat}
theorem inOkE_of_wpcD (hm : P.follows .mixedOrders = true) (hf : P.funcs[f]? = some fn) (hb : fn.body = some c)
  (hok : codeOk W fn.ntmps c = true) (hn : args.length ≤ fn.ntmps) (hx : Stays P x (cutH h h' nx eat) nx eat) (hh' : ∀ i, i < nx → i ∉ eat → h' i = h i ∨ AV.pureL (h' i).xs = true)
  (hw : wpc P W c ⟨fun i => args.getD i .undef, h, nx⟩ (PostE P fn x h' nx eat)) : InOk P ⟨fr, h, nx⟩ f args x ⟨fr, cutH h h' nx eat, nx⟩ := by
 refine ⟨rfl, fun E vs hE hh hnx has => calls_of_wp hf hb ?_⟩
 simp only at hh hnx
 have hsize : (vs.toArray ++ Array.replicate (fn.ntmps - vs.toArray.size) undef).size = fn.ntmps := by have := repL_length has; simp; omega
 refine wp_mono (wpc_sound hm c hok _ _ _ E hw (rel_in hE hh hnx has) hsize rfl) fun e a' w' hq => ?_
 obtain ⟨y, st', E', rfl, ⟨hy, hv, h1, h2⟩, rfl, hR', hn', hd', hle, hgo⟩ := hq
 obtain ⟨u, hres, hru⟩ := resV_sound hR' hv
 obtain ⟨k1, k2, k3, k4, _⟩ := cut_core (eat := eat) (fz := []) (h' := h') hE hR'.ok hle hgo hh hnx (fun i hi he => by rw [← hR'.h]; exact h1 i hi he) hh' (by simp)
 have hru2 : rep P ⟨E'.w, (E'.shut []).I, E'.m, cutH h h' nx eat, nx⟩ x u := by
  have := hx E' u k4 hru
  have e : (E'.shut []).I = E'.I := by funext b; simp [Env.shut]
  rw [e]; exact this
 have hend : bodyPost P fn (fun e w' => ∃ v E', e = .returned v ∧ E'.w = w' ∧ E'.h = cutH h h' nx eat ∧ E'.nx = nx ∧ E.Le E' ∧ Ok P E' ∧ Goes P E E' ∧ rep P E' x v) .ret a' E'.w :=
  ⟨hd', u, hres, u, ⟨E'.w, (E'.shut []).I, E'.m, cutH h h' nx eat, nx⟩, rfl, rfl, rfl, rfl, k1, k2, k3, hru2⟩
 cases y with
 | normal => exact hend
 | ret => exact hend
 | exit i => exact hy.elim
def PostS (P : Program) (fn : Func) (x : AV) (h' : Nat → Blk) (nx : Nat) (eat : List Nat) (e : Ex) (st : St) : Prop :=
 (match e with | .exit _ => False | _ => True) ∧ (∃ v ids, resV P st fn.results.toList = some v ∧ snapA st 8 v = some (x, ids) ∧ ∀ i ∈ ids, nx ≤ i) ∧ (∀ i, i < nx → i ∉ eat → st.h i = h' i)
theorem inOkS_of_wpcD (hm : P.follows .mixedOrders = true) (hf : P.funcs[f]? = some fn) (hb : fn.body = some c)
  (hok : codeOk W fn.ntmps c = true) (hn : args.length ≤ fn.ntmps) (hh' : ∀ i, i < nx → i ∉ eat → h' i = h i ∨ AV.pureL (h' i).xs = true)
  (hw : wpc P W c ⟨fun i => args.getD i .undef, h, nx⟩ (PostS P fn x h' nx eat)) : InOk P ⟨fr, h, nx⟩ f args x ⟨fr, cutH h h' nx eat, nx⟩ := by
 refine ⟨rfl, fun E vs hE hh hnx has => calls_of_wp hf hb ?_⟩
 simp only at hh hnx
 have hsize : (vs.toArray ++ Array.replicate (fn.ntmps - vs.toArray.size) undef).size = fn.ntmps := by have := repL_length has; simp; omega
 refine wp_mono (wpc_sound hm c hok _ _ _ E hw (rel_in hE hh hnx has) hsize rfl) fun e a' w' hq => ?_
 obtain ⟨y, st', E', rfl, ⟨hy, ⟨v, ids, hv, hsn, hids⟩, h1⟩, rfl, hR', hn', hd', hle, hgo⟩ := hq
 obtain ⟨u, hres, hru⟩ := resV_sound hR' hv
 obtain ⟨s1, s2, s3⟩ := snapA_sound hR'.ok hR'.h 8 v x ids u hsn hru
 obtain ⟨k1, k2, k3, k4, _⟩ := cut_core (eat := eat) (fz := ids) (h' := h') hE hR'.ok hle hgo hh hnx (fun i hi he => by rw [← hR'.h]; exact h1 i hi he) hh' hids
 have hru2 : rep P ⟨E'.w, (E'.shut ids).I, E'.m, cutH h h' nx eat, nx⟩ x u :=
  rep_pure (E := E'.shut ids) (E' := ⟨E'.w, (E'.shut ids).I, E'.m, cutH h h' nx eat, nx⟩) (fun b hb => ⟨hb, rfl⟩) x u s1 s2
 have hend : bodyPost P fn (fun e w' => ∃ v E', e = .returned v ∧ E'.w = w' ∧ E'.h = cutH h h' nx eat ∧ E'.nx = nx ∧ E.Le E' ∧ Ok P E' ∧ Goes P E E' ∧ rep P E' x v) .ret a' E'.w :=
  ⟨hd', u, hres, u, ⟨E'.w, (E'.shut ids).I, E'.m, cutH h h' nx eat, nx⟩, rfl, rfl, rfl, rfl, k1, k2, k3, hru2⟩
 cases y with
 | normal => exact hend
 | ret => exact hend
 | exit i => exact hy.elim
end
theorem cutH_self {h : Nat → Blk} {nx : Nat} : cutH h h nx [] = h := by funext i; simp [cutH]
mutual
def AV.frz : AV → AV
 | .own t xs _ _ => .sl t (AV.frzL xs) [] false
 | .agg cs => .agg (AV.frzL cs)
 | .tup cs => .tup (AV.frzL cs)
 | .undef => .undef
 | .bool b => .bool b
 | .int k n => .int k n
 | .str s => .str s
 | .nil => .nil
 | .sl t xs sp ex => .sl t xs sp ex
 | .ref a b c d => .ref a b c d
 | .ptr a b c d => .ptr a b c d
 | .cptr t v j => .cptr t v j
 | .fn f a b => .fn f a b
def AV.frzL : List AV → List AV
 | [] => []
 | x :: xs => x.frz :: AV.frzL xs
end
theorem frzL_length : ∀ xs : List AV, (AV.frzL xs).length = xs.length
 | [] => rfl
 | x :: xs => by simp [AV.frzL, frzL_length xs]
mutual
theorem frz_pure : ∀ x : AV, x.pure = true → x.frz = x
 | .own .., h => by simp [AV.pure] at h
 | .agg cs, h => by simp only [AV.pure] at h; simp only [AV.frz, frzL_pure cs h]
 | .tup cs, h => by simp only [AV.pure] at h; simp only [AV.frz, frzL_pure cs h]
 | .undef, _ | .bool _, _ | .int .., _ | .str _, _ | .nil, _ | .sl .., _ | .ref .., _ | .ptr .., _ | .cptr .., _ | .fn .., _ => by simp [AV.frz]
theorem frzL_pure : ∀ xs : List AV, AV.pureL xs = true → AV.frzL xs = xs
 | [], _ => rfl
 | x :: xs, h => by
  simp only [AV.pureL, Bool.and_eq_true] at h
  simp only [AV.frzL, frz_pure x h.1, frzL_pure xs h.2]
end
theorem frz_one {x : AV} (h : x.one = true) : x.frz.one = true ∧ x.frz.cells = [x.frz] := by
 cases x <;> simp_all [AV.frz, AV.one, AV.cells]
theorem frzL_one : ∀ {cs : List AV}, cs.all AV.one = true → (AV.frzL cs).all AV.one = true
 | [], _ => rfl
 | x :: xs, h => by
  simp only [List.all_cons, Bool.and_eq_true] at h
  simp only [AV.frzL, List.all_cons, Bool.and_eq_true]
  exact ⟨(frz_one h.1).1, frzL_one h.2⟩
theorem frz_el {P : Program} {t : Nat} {x : AV} (h : x.el P t = true) : x.frz.el P t = true := by
  by_cases ha : ∃ cs, x = .agg cs
  · obtain ⟨cs, rfl⟩ := ha
    have h1 := el_len h
    have h2 : cs.all AV.one = true := List.all_eq_true.2 (el_one h)
    unfold AV.el
    rw [Bool.and_eq_true]
    simp only [AV.frz, AV.cells] at h1 ⊢
    exact ⟨decide_eq_true (by rw [frzL_length]; exact h1), frzL_one h2⟩
  · have hx : x.cells = [x] := by cases x <;> simp_all [AV.cells]
    have h1 := el_len h
    have h2 := el_one h
    rw [hx] at h1 h2
    obtain ⟨k1, k2⟩ := frz_one (h2 x (by simp))
    unfold AV.el
    rw [Bool.and_eq_true, k2]
    exact ⟨decide_eq_true (by simpa using h1), by simp [k1]⟩
theorem frzL_el {P : Program} {t : Nat} : ∀ {xs : List AV}, (∀ x ∈ xs, x.el P t = true) → ∀ x ∈ AV.frzL xs, x.el P t = true
  | [], _, x, h => by simp [AV.frzL] at h
  | y :: ys, hy, x, h => by
    simp only [AV.frzL, List.mem_cons] at h
    rcases h with rfl | h
    · exact frz_el (hy y (by simp))
    · exact frzL_el (fun z hz => hy z (by simp [hz])) x h
mutual
theorem frz_rep {P : Program} {E E' : Env} (hw : E'.w = E.w) (hI : ∀ b, E.I b → E'.I b) : ∀ (x : AV) (v : Value) (L : List OLoc), (∀ o ∈ L, E'.I o.l.b) → ownR P E x v L → x.frz.pure = true ∧ rep P E' x.frz v
  | .own t xs sp ex, v, L, hL, h => by
    simp only [ownR] at h
    obtain ⟨l, L1, L2, vs, us, c, ad, rfl, rfl, ha, _, hle, _, hel, hx, _, hb, hc, _⟩ := h
    obtain ⟨p1, p2⟩ := frzL_rep hw hI xs vs L1 (fun o ho => hL o (by simp [ho])) hx
    simp only [AV.frz]
    refine ⟨by simp [AV.pure, AV.pureL, p1], ?_⟩
    simp only [rep, frzL_length]
    refine ⟨some ad, l.cap, rfl, by simp; omega, by simp, fun x hx' => frzL_el (xs := xs) (fun y hy => hel y (List.mem_append.2 (.inl hy))) x (by simpa using hx'), vs, [], p2, by simp [repL], fun hne => ⟨l.b, l.base, c, (t, (0, 0)), ?_, hL _ (List.mem_cons_self ..), by rw [hw]; exact hb, by rw [List.append_nil]; exact cellsAt_take hc⟩⟩
    rw [ha (by simp at hne; intro h0; have : xs.length = 0 := by omega
               exact hne (List.length_eq_zero_iff.1 this))]
  | .agg cs, v, L, hL, h => by
    simp only [ownR] at h; simp only [AV.frz, AV.pure, rep]
    obtain ⟨vs, h1, h2⟩ := h
    obtain ⟨p1, p2⟩ := frzL_rep hw hI cs vs L hL h2
    exact ⟨p1, vs, h1, p2⟩
  | .tup cs, v, L, hL, h => by
    simp only [ownR] at h; simp only [AV.frz, AV.pure, rep]
    obtain ⟨vs, h1, h2⟩ := h
    obtain ⟨p1, p2⟩ := frzL_rep hw hI cs vs L hL h2
    exact ⟨p1, vs, h1, p2⟩
  | .undef, v, L, _, _ => by simp [AV.frz, AV.pure, rep]
  | .bool b, v, L, _, h => by simp only [ownR, rep] at h; simp only [AV.frz, rep]; exact ⟨rfl, h.2⟩
  | .int k n, v, L, _, h => by simp only [ownR, rep] at h; simp only [AV.frz, rep]; exact ⟨rfl, h.2⟩
  | .str s, v, L, _, h => by simp only [ownR, rep] at h; simp only [AV.frz, rep]; exact ⟨rfl, h.2⟩
  | .nil, v, L, _, h => by simp only [ownR, rep] at h; simp only [AV.frz, rep]; exact ⟨rfl, h.2⟩
  | .sl t xs sp ex, v, L, _, h => by simp only [ownR] at h; simp only [AV.frz]; exact ⟨h.2.1, rep_pure (fun b hb => ⟨hI b hb, by rw [hw]⟩) _ _ h.2.1 h.2.2⟩
  | .cptr t x j, v, L, _, h => by simp only [ownR] at h; simp only [AV.frz]; exact ⟨h.2.1, rep_pure (fun b hb => ⟨hI b hb, by rw [hw]⟩) _ _ h.2.1 h.2.2⟩
  | .fn f a b, v, L, _, h => by simp only [ownR] at h; simp only [AV.frz]; exact ⟨h.2.1, rep_pure (fun b hb => ⟨hI b hb, by rw [hw]⟩) _ _ h.2.1 h.2.2⟩
  | .ref .., v, L, _, h => by simp [ownR] at h
  | .ptr .., v, L, _, h => by simp [ownR] at h
theorem frzL_rep {P : Program} {E E' : Env} (hw : E'.w = E.w) (hI : ∀ b, E.I b → E'.I b) : ∀ (xs : List AV) (vs : List Value) (L : List OLoc), (∀ o ∈ L, E'.I o.l.b) → ownRL P E xs vs L → AV.pureL (AV.frzL xs) = true ∧ repL P E' (AV.frzL xs) vs
  | [], vs, L, _, h => by simp only [ownRL] at h; simp [AV.frzL, AV.pureL, repL, h.1]
  | x :: xs, vs, L, hL, h => by
    simp only [ownRL] at h
    obtain ⟨v, us, L1, L2, rfl, rfl, h3, h4⟩ := h
    obtain ⟨p1, p2⟩ := frz_rep hw hI x v L1 (fun o ho => hL o (by simp [ho])) h3
    obtain ⟨q1, q2⟩ := frzL_rep hw hI xs us L2 (fun o ho => hL o (by simp [ho])) h4
    simp only [AV.frzL, AV.pureL, repL]
    exact ⟨by simp [p1, q1], v, us, rfl, p2, q2⟩
end
theorem CallOk.freeze {P : Program} {f : FuncId} {args : List AV} {r : AV} {outs : List (List AV)} (h : CallOk P f args r outs) : CallOk P f args r.frz outs := by
  intro w I vs L h1 h2 h3
  refine (h w I vs L h1 h2 h3).mono ?_
  rintro e w' ⟨v, I', L', rfl, k2, k3, k4, k5, k6, k7, k8, k9⟩
  obtain ⟨I2, hI2⟩ : ∃ I2 : Nat → Prop, I2 = fun b => I' b ∨ ∃ o ∈ L', o.l.b = b := ⟨_, rfl⟩
  have hsub : ∀ b, I' b → I2 b := fun b hb => by rw [hI2]; exact .inl hb
  obtain ⟨p1, p2⟩ := frz_rep (E := bare w' I') (E' := bare w' I2) rfl hsub r v L' (fun o ho => by rw [hI2]; exact .inr ⟨o, ho, rfl⟩) k6
  refine ⟨v, I2, [], rfl, k2, fun b hb => hsub b (k3 b hb), fun b hb => ?_, fun b hb => ?_, ownR_of_pure _ _ p1 p2, by simp, by simp, ?_⟩
  · rw [hI2] at hb
    rcases hb with h | ⟨o, ho, rfl⟩
    · exact k4 b h
    · exact .inr (k8 o ho).1
  · rw [hI2] at hb
    rcases hb with h | ⟨o, ho, rfl⟩
    · exact k5 b h
    · obtain ⟨c, hc⟩ := ownR_heap r v L' k6 o ho
      exact lt_of_heap hc
  · rcases k9 with h | ⟨h, k⟩
    · exact .inl h
    · refine .inr ⟨h, fun i o ys hi hy => ?_⟩
      obtain ⟨a1, a2, a3, c, us, a4, a5, a6⟩ := k i o ys hi hy
      exact ⟨a1, a2, a3, c, us, a4, repL_pure (E := bare w' I') (E' := bare w' I2) (fun b hb => ⟨hsub b hb, rfl⟩) _ _ a2 a5, a6⟩
theorem frz_own {T : Nat} {xs sp : List AV} {ex : Bool} (hp : AV.pureL xs = true) : (AV.own T xs sp ex).frz = .sl T xs [] false := by simp only [AV.frz, frzL_pure xs hp]
theorem CallOk.freeze1 {P : Program} {f : FuncId} {args : List AV} {T : Nat} {xs sp : List AV} {ex : Bool} (h : CallOk P f args (.own T xs sp ex) []) (hp : AV.pureL xs = true) : CallOk P f args (.sl T xs [] false) [] := by
 have := h.freeze; rwa [frz_own hp] at this
section
variable {P : Program} {W : WP} {f : FuncId} {fn : Func} {c : Code} {args : List AV} {x : AV} {fr : Nat → AV} {h : Nat → Blk} {nx : Nat}
theorem inOkS0 (hm : P.follows .mixedOrders = true) (hf : P.funcs[f]? = some fn) (hb : fn.body = some c) (hok : codeOk W fn.ntmps c = true) (hn : args.length ≤ fn.ntmps)
  (hw : wpc P W c ⟨fun i => args.getD i .undef, h, nx⟩ (PostS P fn x h nx [])) : InOk P ⟨fr, h, nx⟩ f args x ⟨fr, h, nx⟩ := by
 have := inOkS_of_wpcD (fr := fr) (h' := h) (eat := []) hm hf hb hok hn (fun _ _ _ => .inl rfl) hw
 rwa [cutH_self] at this
end
section
variable {P : Program} {fn : Func} {h' : Nat → Blk} {nx : Nat} {eat : List Nat} {st : St} {e : Ex}
theorem postS_one {t : Tmp} {r : AV} (he : e = .ret ∨ e = .normal) (hr : fn.results.toList = [.tmp t]) (hv : st.fr t = r) (hp : r.pure = true) (hh : ∀ i, i < nx → i ∉ eat → st.h i = h' i) : PostS P fn r h' nx eat e st :=
 ⟨by rcases he with rfl | rfl <;> trivial, ⟨r, [], by rw [hr]; simp [resV, resL, resA, hv], snapA_pure hp, by simp⟩, hh⟩
theorem postS_frozen {t : Tmp} {id n off len T : Nat} {r : List AV} (he : e = .ret ∨ e = .normal) (hr : fn.results.toList = [.tmp t]) (hv : st.fr t = .ref id n off len)
  (hlv : (st.h id).lv = true) (hn : (st.h id).xs.length = n) (ht : (st.h id).t = T) (hl : off + len ≤ n) (hid : nx ≤ id) (hxs : ((st.h id).xs.drop off).take len = r) (hp : AV.pureL r = true) (hh : ∀ i, i < nx → i ∉ eat → st.h i = h' i) :
  PostS P fn (.sl T r [] false) h' nx eat e st :=
 ⟨by rcases he with rfl | rfl <;> trivial, ⟨.ref id n off len, [id], by rw [hr]; simp [resV, resL, resA, hv], snap_frozen hlv hn ht hl hxs hp, by simpa using hid⟩, hh⟩
end
theorem c_l09In : callable Tryz.prog 29 = true := by kernel_rfl
theorem c_l09Rest : callable Tryz.prog 76 = true := by kernel_rfl
theorem s_l09In {x : MR} {v : List Rat} {M n : Nat} (hM : M ≤ 10000000) (hn : n + 1 < v.length) (hl : v.length ≤ 1000) : CP Tryz.prog 29 41 x.sv [lS M v, .int .i64 n] (rS (700 + M + 1) (x.reward + v.getD (n + 1) 0)) := by
 obtain ⟨q, hq⟩ := get_some (xs := v) (i := n + 1) (by omega)
 have hqk : ((n : Int) + 1).toNat = n + 1 := by omega
 rw [getD_of hq]
 (intro fr0 h nx id hm hid; refine inOkF_of_wpc (W := ⟨fun _ => false, fun _ => none⟩) hm' Tryz.func29 rfl (by kernel_rfl) (Nat.le_of_ble_eq_true rfl) (by simp [AV.pure, AV.pureL, natA_pure, natI_pure, natS_pure]) (go_start ?_); generalize hQ : PostF Tryz.prog Tryz.f29 _ _ _ = Q; clear fr0)
 simp (disch := omega) only [go_sem, ↓k_cond, ↓x_idx, ↓k_block, Nat.reduceEqDiff, Nat.reduceBEq, ↓reduceIte, reduceCtorEq, hm, hq, hqk]
 (repeat (with_reducible refine Or.inr ?_))
 rw [← hQ]
 exact postF_cell1 (id := nx) (x := rS (700 + M + 1) (x.reward + q)) (.inl rfl) rfl o_sRat (by simp [upd_app] <;> omega) (by simp [upd_app]) (by simp [upd_app]) ld_sRat (by intro i hi; simp only [upd_app]; repeat rw [if_neg (by omega)]) (by simp <;> omega)
def rstR (x : MR) (v : List Rat) (n : Nat) : Rat := -(x.cost * ((n : Int) : Rat)) + x.serve * v.getD (n - 1) 0 + (1 - x.come - x.serve) * v.getD n 0
theorem s_l09Rest {x : MR} {v : List Rat} {M n : Nat} (hM : M ≤ 10000000) (hn : n < v.length) (hl : v.length ≤ 1000) : CP Tryz.prog 76 41 x.sv [lS M v, .int .i64 n] (rS (764 + (700 + M) + 1 + (1466 + M) + 1) (rstR x v n)) := by
  obtain ⟨p, hp⟩ := get_some (xs := v) (i := n) (by omega)
  obtain ⟨z, hz⟩ := get_some (xs := v) (i := n - 1) (by omega)
  rw [rstR, getD_of hp, getD_of hz]
  by_cases h0 : n = 0
  · obtain rfl : p = z := by rw [h0] at hp hz; exact Option.some.inj (hp.symm.trans hz)
    (intro fr0 h nx id hm hid; refine inOkF_of_wpc (W := ⟨fun _ => false, fun r => if r = 4 then some [(3, 8)] else none⟩) hm' Tryz.func76 rfl (by kernel_rfl) (Nat.le_of_ble_eq_true rfl) (by simp [AV.pure, AV.pureL, natA_pure, natI_pure, natS_pure]) (go_start ?_); generalize hQ : PostF Tryz.prog Tryz.f76 _ _ _ = Q; clear fr0)
    simp (disch := omega) only [go_sem, ↓k_cond, ↓x_idx, ↓k_block, Nat.reduceEqDiff, Nat.reduceBEq, ↓reduceIte, reduceCtorEq, ↓k_appE, hm, hp]
    (repeat (with_reducible refine Or.inr ?_))
    rw [← hQ]
    exact postF_cell1 (id := nx) (x := rS (764 + (700 + M) + 1 + (1466 + M) + 1) (-(x.cost * ((n : Int) : Rat)) + x.serve * p + (1 - x.come - x.serve) * p)) (.inl rfl) rfl o_sRat (by simp [upd_app] <;> omega) (by simp [upd_app]) (by simp [upd_app]) ld_sRat (by intro i hi; simp only [upd_app]; repeat rw [if_neg (by omega)]) (by simp <;> omega)
  · have hqk : ((n : Int) - 1).toNat = n - 1 := by omega
    (intro fr0 h nx id hm hid; refine inOkF_of_wpc (W := ⟨fun _ => false, fun r => if r = 4 then some [(3, 8)] else none⟩) hm' Tryz.func76 rfl (by kernel_rfl) (Nat.le_of_ble_eq_true rfl) (by simp [AV.pure, AV.pureL, natA_pure, natI_pure, natS_pure]) (go_start ?_); generalize hQ : PostF Tryz.prog Tryz.f76 _ _ _ = Q; clear fr0)
    simp (disch := omega) only [go_sem, ↓k_cond, ↓x_idx, ↓k_block, Nat.reduceEqDiff, Nat.reduceBEq, ↓reduceIte, reduceCtorEq, ↓k_appE, hm, hp, hz, hqk]
    (repeat (with_reducible refine Or.inr ?_))
    rw [← hQ]
    exact postF_cell1 (id := nx) (x := rS (764 + (700 + M) + 1 + (1466 + M) + 1) (-(x.cost * ((n : Int) : Rat)) + x.serve * z + (1 - x.come - x.serve) * p)) (.inl rfl) rfl o_sRat (by simp [upd_app] <;> omega) (by simp [upd_app]) (by simp [upd_app]) ld_sRat (by intro i hi; simp only [upd_app]; repeat rw [if_neg (by omega)]) (by simp <;> omega)
theorem w_zeros {x : MR} {fr : Nat → AV} {h : Nat → Blk} {nx id : Nat} (hb : h id = ⟨41, [x.sv], true, false, true⟩) (hid : id < nx) (h8 : x.room ≤ 8) : InOk Tryz.prog ⟨fr, h, nx⟩ 42 [.ptr id 1 0 0] (lS 64 (List.replicate (x.room + 1) 0)) ⟨fr, h, nx⟩ := by
  refine inOkS0 (W := ⟨fun _ => false, fun _ => none⟩) hm' Tryz.func42 rfl (by kernel_rfl) (Nat.le_of_ble_eq_true rfl) (go_start ?_)
  generalize hQ : PostS Tryz.prog Tryz.f42 _ _ _ _ = Q
  obtain ⟨r, hr⟩ : ∃ r, x.room = r := ⟨_, rfl⟩
  rw [hr] at h8 hQ
  simp (disch := omega) only [go_sem, ↓k_cond, ↓x_idx, ↓k_block, Nat.reduceEqDiff, Nat.reduceBEq, ↓reduceIte, reduceCtorEq, hb]
  refine k_loop (fun (n : Nat) st => st.fr 0 = .ptr id 1 0 0 ∧ st.fr 3 = .ref nx n 0 n ∧ st.fr 4 = .int .i64 n ∧ st.h nx = ⟨39, ratM 64 (List.replicate n 0), (n == 0), true, true⟩ ∧ (∀ i, i < nx → st.h i = h i) ∧ nx < st.nx ∧ n ≤ r + 1) (fun n => r + 1 - n) 0
    ⟨(by simp [upd_app] <;> omega), (by simp [upd_app] <;> omega), (by simp [upd_app] <;> omega), by simp [upd_app, ratM], fun i hi => by simp only [upd_app]; rw [if_neg (by omega)], by simp, by omega⟩ ?_
  rintro n ⟨fr1, h1, nx1⟩ ⟨g0, g3, g4, hm0, hold, hnx, hn⟩ J hJ
  simp only at g0 g3 g4 hm0 hold hnx
  have hb1 : h1 id = ⟨41, [x.sv], true, false, true⟩ := by rw [hold id hid]; exact hb
  have hel : (ratM 64 (List.replicate n 0)).length = n := by rw [ratM_length, List.length_replicate]
  by_cases hin : n ≤ r
  · have hz1 : (n + 1 == 0) = false := by simp
    have hsn : ratM 64 (List.replicate n 0) ++ [rS 64 0] = ratM 64 (List.replicate (n + 1) 0) := by rw [ratM_snoc, ← List.replicate_succ']
    simp (disch := omega) only [go_sem, ↓k_cond, ↓x_idx, ↓k_block, Nat.reduceEqDiff, Nat.reduceBEq, ↓reduceIte, reduceCtorEq, g0, g3, g4, hb1, hr, hm0, hel, reach]
    (repeat (with_reducible refine Or.inr ?_))
    exact hJ (n + 1) _ ⟨(by simp [upd_app, g0] <;> omega), (by simp [upd_app] <;> omega), (by simp [upd_app] <;> omega), by simp only [upd_app, ↓reduceIte, hsn, hz1], fun i hi => by simp only [upd_app]; rw [if_neg (by omega), hold i hi], by simp only; omega, by omega⟩ (by omega)
  · obtain rfl : n = r + 1 := by omega
    simp (disch := omega) only [go_sem, ↓k_cond, ↓x_idx, ↓k_block, Nat.reduceEqDiff, Nat.reduceBEq, ↓reduceIte, reduceCtorEq, g0, g3, g4, hb1, hr]
    rw [← hQ]
    exact postS_frozen (id := nx) (n := r + 1) (off := 0) (len := r + 1) (.inl rfl) rfl (by simp [upd_app] <;> omega) (by simp [hm0]) (by simp [hm0, hel]) (by simp [hm0]) (by omega) (Nat.le_refl _) (by simp only [hm0, List.drop_zero]; exact List.take_of_length_le (by omega)) (by simp) (fun i hi _ => by simp only; exact hold i hi)
theorem betL_succ {x : MR} {v : List Rat} {n : Nat} : (List.range (n + 1)).map (betB x v) = (List.range n).map (betB x v) ++ [betB x v n] := by simp [List.range_succ]
theorem i_l09Better {fr : Nat → AV} {h : Nat → Blk} {nx id M : Nat} {x : MR} {v : List Rat} (hM : M ≤ 10000000) (hb : h id = ⟨41, [x.sv], true, false, true⟩) (hid : id < nx) (h1 : 1 ≤ x.room) (h8 : x.room ≤ 8) (hv : v.length = x.room + 1) :
    InOk Tryz.prog ⟨fr, h, nx⟩ 21 [.ptr id 1 0 0, lS M v] (.ref nx x.room 0 x.room) ⟨fr, upd h nx ⟨4, boolA (betL x v), false, true, true⟩, nx + 1⟩ := by
  refine inOk_of_wpc (W := fun _ => false) hm' Tryz.func21 rfl (by kernel_rfl) (Nat.le_of_ble_eq_true rfl) (go_start ?_)
  generalize hQ : PostIn Tryz.prog Tryz.f21 _ _ _ = Q
  have n1 : (id = nx) = False := by simp; omega
  have n2 : (nx = id) = False := by simp; omega
  have hupd : ∀ z w : Blk, upd (upd h nx z) nx w = upd h nx w := by intro z w; funext j; simp only [upd_app]; split <;> rfl
  obtain ⟨r, hr⟩ : ∃ r, x.room = r := ⟨_, rfl⟩
  rw [betL] at hQ
  rw [hr] at h1 h8 hQ hv
  simp (disch := omega) only [go_sem, ↓k_cond, ↓x_idx, ↓k_block, Nat.reduceEqDiff, Nat.reduceBEq, ↓reduceIte, reduceCtorEq, hb]
  refine k_loop (fun (n : Nat) st => st.fr 0 = .ptr id 1 0 0 ∧ st.fr 1 = lS M v ∧ st.fr 5 = .ref nx n 0 n ∧ st.fr 6 = .int .i64 n ∧ st.h = upd h nx ⟨4, boolA ((List.range n).map (betB x v)), (n == 0), true, true⟩ ∧ st.nx = nx + 1 ∧ n ≤ r) (fun n => r - n) 0
    ⟨(by simp [upd_app] <;> omega), (by simp [upd_app] <;> omega), (by simp [upd_app] <;> omega), (by simp [upd_app] <;> omega), by simp [boolA], rfl, by omega⟩ ?_
  rintro n ⟨fr1, h2, nx1⟩ ⟨g0, g1, g5, g6, eh, enx, hn⟩ J hJ
  simp only at g0 g1 g5 g6 eh enx
  subst eh enx
  by_cases hin : n < r
  · have hel : (boolA ((List.range n).map (betB x v))).length = n := by simp [boolA_len]
    have hz1 : (n + 1 == 0) = false := by simp
    obtain ⟨p, hp⟩ := get_some (xs := v) (i := n) (by omega)
    have hin' := cpe (s_l09In (x := x) (v := v) (M := M) (n := n) hM (by omega) (by omega)) c_l09In
    have hle := w_sLess (m := 700 + M + 1) (n := M) (a := x.reward + v.getD (n + 1) 0) (b := p) (by omega)
    have hbd : betB x v n = !decide (x.reward + v.getD (n + 1) 0 < p) := by
      rw [betB, getD_of hp, ← decide_not]
      exact decide_eq_decide.2 Rat.not_lt.symm
    have hsn : boolA ((List.range n).map (betB x v)) ++ [.bool (!decide (x.reward + v.getD (n + 1) 0 < p))] = boolA ((List.range (n + 1)).map (betB x v)) := by rw [boolA_snoc, betL_succ, hbd]
    generalize decide (x.reward + v.getD (n + 1) 0 < p) = b at hle hsn
    simp (disch := first | omega | (simp [upd_app, evA]; done) | (simp [upd_app, evA, *]; done) | fail) only [go_sem, ↓k_cond, ↓x_idx, ↓k_block, Nat.reduceEqDiff, Nat.reduceBEq, ↓reduceIte, reduceCtorEq, g0, g1, g5, g6, hb, n1, n2, hr, hel, hp, hin', hle, reach, hupd, hsn]
    (repeat (with_reducible refine Or.inr ?_))
    exact hJ (n + 1) _ ⟨(by simp [upd_app, g0] <;> omega), (by simp [upd_app, g1] <;> omega), (by simp [upd_app] <;> omega), (by simp [upd_app] <;> omega), by simp only [hz1, List.range_succ], by simp only, hin⟩ (by omega)
  · obtain rfl : n = r := by omega
    have hz : (n == 0) = false := by simp; omega
    simp (disch := omega) only [go_sem, ↓k_cond, ↓x_idx, ↓k_block, Nat.reduceEqDiff, Nat.reduceBEq, ↓reduceIte, reduceCtorEq, g0, g1, g5, g6, hb, n1, n2, hr]
    rw [← hQ]
    exact postIn_one (.inl rfl) rfl (by simp [upd_app] <;> omega) (by rw [hz]) rfl
theorem pln_rst {x : MR} {v : List Rat} {act : Nat → Bool} {n : Nat} : plnF x v act n = rstR x v n + x.come * comR x v (act n) n := by unfold plnF rstR stayR; grind
theorem betL_at {x : MR} {v : List Rat} {n : Nat} (h : n < x.room) : (betL x v)[n]? = some (betB x v n) := by simp [betL, h]
theorem i_l09Plan {fr : Nat → AV} {h : Nat → Blk} {nx id a M : Nat} {x : MR} {v : List Rat} {ex gr : Bool} (hM : M ≤ 10000000) (hb : h id = ⟨41, [x.sv], true, false, true⟩) (hid : id < nx) (ha : h a = ⟨4, boolA (betL x v), ex, gr, true⟩) (hax : a < nx)
    (h1 : 1 ≤ x.room) (h8 : x.room ≤ 8) (hv : v.length = x.room + 1) (hf : ∀ n, n ≤ x.room → fits M (plnF x v (betB x v) n)) :
    InOk Tryz.prog ⟨fr, h, nx⟩ 43 [.ptr id 1 0 0, .ref a x.room 0 x.room, lS M v] (lS M (plnL x v (betB x v))) ⟨fr, h, nx⟩ := by
  refine inOkS0 (W := ⟨fun _ => false, fun _ => none⟩) hm' Tryz.func43 rfl (by kernel_rfl) (Nat.le_of_ble_eq_true rfl) (go_start ?_)
  generalize hQ : PostS Tryz.prog Tryz.f43 _ _ _ _ = Q
  obtain ⟨r, hr⟩ : ∃ r, x.room = r := ⟨_, rfl⟩
  rw [plnL] at hQ
  have hbl : (boolA (betL x v)).length = r := by rw [boolA_len, betL_len, hr]
  have hat := fun n (h : n < r) => betL_at (x := x) (v := v) (n := n) (by omega)
  rw [hr] at h1 h8 hQ hv hf ⊢
  simp (disch := omega) only [go_sem, ↓k_cond, ↓x_idx, ↓k_block, Nat.reduceEqDiff, Nat.reduceBEq, ↓reduceIte, reduceCtorEq, hv]
  refine k_loop (fun (n : Nat) st => st.fr 0 = .ptr id 1 0 0 ∧ st.fr 1 = .ref a r 0 r ∧ st.fr 2 = lS M v ∧ st.fr 7 = .ref nx n 0 n ∧ st.fr 12 = .int .i64 ((r + 1 : Nat) : Int) ∧ st.fr 13 = .int .i64 n ∧ st.h nx = ⟨39, ratM M (mapF n (plnF x v (betB x v))), (n == 0), true, true⟩ ∧ (∀ i, i < nx → st.h i = h i) ∧ nx < st.nx ∧ n ≤ r + 1) (fun n => r + 1 - n) 0
    ⟨(by simp [upd_app] <;> omega), (by simp [upd_app] <;> omega), (by simp [upd_app] <;> omega), (by simp [upd_app] <;> omega), (by simp [upd_app, hv] <;> omega), (by simp [upd_app] <;> omega), by simp [upd_app, ratM, mapF], fun i hi => by simp only [upd_app]; rw [if_neg (by omega)], by simp, by omega⟩ ?_
  rintro n ⟨fr1, h2, nx1⟩ ⟨g0, g1, g2, g7, g12, g13, hm0, hold, hnx, hn⟩ J hJ
  simp only at g0 g1 g2 g7 g12 g13 hm0 hold hnx
  have hb1 : h2 id = ⟨41, [x.sv], true, false, true⟩ := by rw [hold id hid]; exact hb
  have ha1 : h2 a = ⟨4, boolA (betL x v), ex, gr, true⟩ := by rw [hold a hax]; exact ha
  have hel : (ratM M (mapF n (plnF x v (betB x v)))).length = n := by rw [ratM_length, mapF_len]
  by_cases hin : n < r + 1
  · have hz1 : (n + 1 == 0) = false := by simp
    obtain ⟨p, hp⟩ := get_some (xs := v) (i := n) (by omega)
    have hrest := cpe (s_l09Rest (x := x) (v := v) (M := M) (n := n) hM (by omega) (by omega)) c_l09Rest
    have hsn : ratM M (mapF n (plnF x v (betB x v))) ++ [rS M (plnF x v (betB x v) n)] = ratM M (mapF (n + 1) (plnF x v (betB x v))) := by rw [mapF_succ, ratM_snoc]
    have hfn := hf n (by omega)
    have key := hJ (n + 1)
    clear hJ
    have e1 : (id = nx1) = False := by simp; omega
    have e2 : (a = nx1) = False := by simp; omega
    have e3 : (nx = nx1) = False := by simp; omega
    have e4 : (nx1 = nx) = False := by simp; omega
    by_cases c : n < r
    · have hb0 := hat n c
      have hin' := cpe (s_l09In (x := x) (v := v) (M := M) (n := n) hM (by omega) (by omega)) c_l09In
      cases hbb : betB x v n with
      | true =>
        rw [hbb] at hb0
        have hre : ∀ k, M ≤ k → rS k (rstR x v n + x.come * (x.reward + v.getD (n + 1) 0)) = rS M (plnF x v (betB x v) n) := fun k hk => by
          have e : plnF x v (betB x v) n = rstR x v n + x.come * (x.reward + v.getD (n + 1) 0) := by rw [pln_rst, comR, hbb, if_pos ⟨by omega, rfl⟩]
          rw [← e]; exact rS_le hfn hk
        generalize plnF x v (betB x v) n = w at *
        simp (disch := first | omega | (simp [upd_app, evA]; done) | (simp [upd_app, evA, *]; done) | fail) only [go_sem, ↓k_cond, ↓x_idx, ↓k_block, Nat.reduceEqDiff, Nat.reduceBEq, ↓reduceIte, reduceCtorEq, g0, g1, g2, g7, g12, g13, hb1, ha1, hbl, boolA_at, hr, hp, hrest, hre, e1, e2, e3, e4, hm0, hel, reach, hb0, hin']
        (repeat (with_reducible refine Or.inr ?_))
        exact key _ ⟨(by simp [upd_app, g0] <;> omega), (by simp [upd_app, g1] <;> omega), (by simp [upd_app, g2] <;> omega), (by simp [upd_app] <;> omega), (by simp [upd_app, g12] <;> omega), (by simp [upd_app] <;> omega), (by simp (disch := omega) only [upd_app, ↓reduceIte, if_pos, if_neg, hsn, hz1]), fun i hi => (by simp (disch := omega) only [upd_app, ↓reduceIte, if_neg, hold i hi]), (by simp only; omega), (by omega)⟩ (by omega)
      | false =>
        rw [hbb] at hb0
        have hre : ∀ k, M ≤ k → rS k (rstR x v n + x.come * p) = rS M (plnF x v (betB x v) n) := fun k hk => by
          have e : plnF x v (betB x v) n = rstR x v n + x.come * p := by rw [pln_rst, comR, hbb, if_neg (by simp), getD_of hp]
          rw [← e]; exact rS_le hfn hk
        generalize plnF x v (betB x v) n = w at *
        simp (disch := first | omega | (simp [upd_app, evA]; done) | (simp [upd_app, evA, *]; done) | fail) only [go_sem, ↓k_cond, ↓x_idx, ↓k_block, Nat.reduceEqDiff, Nat.reduceBEq, ↓reduceIte, reduceCtorEq, g0, g1, g2, g7, g12, g13, hb1, ha1, hbl, boolA_at, hr, hp, hrest, hre, e1, e2, e3, e4, hm0, hel, reach, hb0]
        (repeat (with_reducible refine Or.inr ?_))
        exact key _ ⟨(by simp [upd_app, g0] <;> omega), (by simp [upd_app, g1] <;> omega), (by simp [upd_app, g2] <;> omega), (by simp [upd_app] <;> omega), (by simp [upd_app, g12] <;> omega), (by simp [upd_app] <;> omega), (by simp (disch := omega) only [upd_app, ↓reduceIte, if_pos, if_neg, hsn, hz1]), fun i hi => (by simp (disch := omega) only [upd_app, ↓reduceIte, if_neg, hold i hi]), (by simp only; omega), (by omega)⟩ (by omega)
    ·
        have hre : ∀ k, M ≤ k → rS k (rstR x v n + x.come * p) = rS M (plnF x v (betB x v) n) := fun k hk => by
          have e : plnF x v (betB x v) n = rstR x v n + x.come * p := by rw [pln_rst, comR, if_neg (fun h => by omega), getD_of hp]
          rw [← e]; exact rS_le hfn hk
        generalize plnF x v (betB x v) n = w at *
        simp (disch := first | omega | (simp [upd_app, evA]; done) | (simp [upd_app, evA, *]; done) | fail) only [go_sem, ↓k_cond, ↓x_idx, ↓k_block, Nat.reduceEqDiff, Nat.reduceBEq, ↓reduceIte, reduceCtorEq, g0, g1, g2, g7, g12, g13, hb1, ha1, hbl, boolA_at, hr, hp, hrest, hre, e1, e2, e3, e4, hm0, hel, reach]
        (repeat (with_reducible refine Or.inr ?_))
        exact key _ ⟨(by simp [upd_app, g0] <;> omega), (by simp [upd_app, g1] <;> omega), (by simp [upd_app, g2] <;> omega), (by simp [upd_app] <;> omega), (by simp [upd_app, g12] <;> omega), (by simp [upd_app] <;> omega), (by simp (disch := omega) only [upd_app, ↓reduceIte, if_pos, if_neg, hsn, hz1]), fun i hi => (by simp (disch := omega) only [upd_app, ↓reduceIte, if_neg, hold i hi]), (by simp only; omega), (by omega)⟩ (by omega)
  · obtain rfl : n = r + 1 := by omega
    simp (disch := omega) only [go_sem, ↓k_cond, ↓x_idx, ↓k_block, Nat.reduceEqDiff, Nat.reduceBEq, ↓reduceIte, reduceCtorEq, g0, g1, g2, g7, g12, g13]
    rw [← hQ]
    exact postS_frozen (id := nx) (n := r + 1) (off := 0) (len := r + 1) (.inl rfl) rfl (by simp [upd_app] <;> omega) (by simp [hm0]) (by simp [hm0, hel]) (by simp [hm0]) (by omega) (Nat.le_refl _) (by simp only [hm0, List.drop_zero]; exact List.take_of_length_le (by omega)) (by simp) (fun i hi _ => by simp only; exact hold i hi)
theorem i_l09Best {fr : Nat → AV} {h : Nat → Blk} {nx id t : Nat} {x : MR} (hb : h id = ⟨41, [x.sv], true, false, true⟩) (hid : id < nx) (h1 : 1 ≤ x.room) (h8 : x.room ≤ 8) (ht : t ≤ 24)
    (hf : ∀ k, k ≤ 24 → ∀ i, fits bigV ((valL x k).getD i 0)) : InOk Tryz.prog ⟨fr, h, nx⟩ 22 [.ptr id 1 0 0, .int .i64 t] (lS bigV (valL x t)) ⟨fr, h, nx⟩ := by
  refine inOkS0 (W := ⟨fun g => g == 21, fun _ => none⟩) hm' Tryz.func22 rfl (by kernel_rfl) (Nat.le_of_ble_eq_true rfl) (go_start ?_)
  generalize hQ : PostS Tryz.prog Tryz.f22 _ _ _ _ = Q
  have hB : bigV = 90000 := rfl
  have h0 : lS 64 (List.replicate (x.room + 1) 0) = lS bigV (valL x 0) := by
    have : ratM 64 (List.replicate (x.room + 1) 0) = ratM bigV (valL x 0) := by
      rw [valL]
      exact List.map_congr_left fun q hq => by obtain rfl := List.eq_of_mem_replicate hq; exact rS_re (zero_fits _ (by decide)) (zero_fits _ (by decide))
    rw [lS, lS, this]
  simp (disch := omega) only [go_sem, ↓k_cond, ↓x_idx, ↓k_block, Nat.reduceEqDiff, Nat.reduceBEq, ↓reduceIte, reduceCtorEq]
  refine callW_I (w_zeros (id := id) (x := x) (by simp [upd_app, hb]) (by omega) h8) (by kernel_rfl) (.inr ⟨rfl, rfl⟩) ?_
  rw [h0]
  simp (disch := omega) only [go_sem, ↓k_cond, ↓x_idx, ↓k_block, Nat.reduceEqDiff, Nat.reduceBEq, ↓reduceIte, reduceCtorEq]
  refine k_loop (fun (k : Nat) st => st.fr 0 = .ptr id 1 0 0 ∧ st.fr 1 = .int .i64 ((t - k : Nat) : Int) ∧ st.fr 5 = lS bigV (valL x k) ∧ (∀ i, i < nx → st.h i = h i) ∧ nx ≤ st.nx ∧ k ≤ t) (fun k => t - k) 0
    ⟨(by simp [upd_app] <;> omega), (by simp [upd_app] <;> omega), (by simp [upd_app] <;> omega), fun i hi => by simp only [upd_app], by simp, by omega⟩ ?_
  rintro k ⟨fr1, h2, nx1⟩ ⟨g0, g1, g5, hold, hnx, hk⟩ J hJ
  simp only at g0 g1 g5 hold hnx
  have hb1 : h2 id = ⟨41, [x.sv], true, false, true⟩ := by rw [hold id hid]; exact hb
  by_cases hin : k < t
  · have hpos : ((t - k : Nat) : Int) > 0 := by omega
    have hnx2 : ((t - k : Nat) : Int) - 1 = ((t - (k + 1) : Nat) : Int) := by omega
    have hfn : ∀ n, n ≤ x.room → fits bigV (plnF x (valL x k) (betB x (valL x k)) n) := fun n hn => by
      have := hf (k + 1) (by omega) n
      rw [valL, plnL, getD_of (mapF_at (by omega))] at this
      exact this
    have key := hJ (k + 1)
    clear hJ
    simp (disch := omega) only [go_sem, ↓k_cond, ↓x_idx, ↓k_block, Nat.reduceEqDiff, Nat.reduceBEq, ↓reduceIte, reduceCtorEq, g0, g1, g5]
    refine callW_I (i_l09Better (id := id) (x := x) (v := valL x k) (M := bigV) (by omega) hb1 (by omega) h1 h8 (valL_len k)) (by kernel_rfl) (.inl rfl) ?_
    simp (disch := omega) only [go_sem, ↓k_cond, ↓x_idx, ↓k_block, Nat.reduceEqDiff, Nat.reduceBEq, ↓reduceIte, reduceCtorEq, g0, g1, g5]
    refine callW_I (i_l09Plan (id := id) (a := nx1) (x := x) (v := valL x k) (M := bigV) (ex := false) (gr := true) (by omega) (by simp (disch := omega) only [upd_app, ↓reduceIte, if_neg, hb1]) (by omega) (by simp [upd_app]) (by omega) h1 h8 (valL_len k) hfn) (by kernel_rfl) (.inr ⟨rfl, rfl⟩) ?_
    simp (disch := omega) only [go_sem, ↓k_cond, ↓x_idx, ↓k_block, Nat.reduceEqDiff, Nat.reduceBEq, ↓reduceIte, reduceCtorEq, g0, g1, g5]
    exact key _ ⟨(by simp [upd_app, g0] <;> omega), (by simp [upd_app, hnx2] <;> omega), by simp [upd_app, valL], fun i hi => (by simp (disch := omega) only [upd_app, ↓reduceIte, if_neg, hold i hi]), (by simp only; omega), (by omega)⟩ (by omega)
  · obtain rfl : k = t := by omega
    simp (disch := omega) only [go_sem, ↓k_cond, ↓x_idx, ↓k_block, Nat.reduceEqDiff, Nat.reduceBEq, ↓reduceIte, reduceCtorEq, g0, g1, g5]
    rw [← hQ]
    exact postS_one (.inl rfl) rfl (by simp [upd_app] <;> omega) (by simp [AV.pure, AV.pureL, natA_pure, natI_pure, natS_pure]) (fun i hi _ => by simp only; exact hold i hi)
theorem s_BestActs {m : Mdl} {l : Int} (hs : m.small) : CallOk Tryz.prog 7 [m.av, .int .i64 l] (optB false (bestT m l)) [] := by
  have h := cpe (s_l09Parse m hs) c_l09Parse
  have h2 := w_sIn (n := l) (a := 1) (b := 24)
  unfold bestT
  cases hq : modR m with
  | none =>
    rw [hq] at h
    (refine callOk_of_wpc (W := fun g => g == 21) true hm' Tryz.func7 rfl (by kernel_rfl) (Nat.le_of_ble_eq_true rfl) (go_start ?_); generalize hQ : Post Tryz.prog Tryz.f7 _ _ _ _ _ = Q; simp only [stIn, matL, matA, st00])
    simp (disch := first | omega | (simp [upd_app, evA]; done) | (simp [upd_app, evA, *]; done) | fail) only [go_sem, ↓k_cond, ↓x_idx, ↓k_block, Nat.reduceEqDiff, Nat.reduceBEq, ↓reduceIte, reduceCtorEq, h]
    (repeat (with_reducible refine Or.inr ?_))
    rw [← hQ]
    exact postB_two (.inl rfl) rfl (by simp [upd_app] <;> omega) (by simp [upd_app] <;> omega) rfl rfl
  | some x =>
    rw [hq] at h
    obtain ⟨f1, f2, f3, f4, k1, k8, hroom, _, _, hrw, hco⟩ := modR_fits hq
    by_cases c : 1 ≤ l ∧ l ≤ 24
    · obtain ⟨k, rfl⟩ : ∃ k : Nat, l = k := ⟨l.toNat, by omega⟩
      simp only [if_pos c, Int.toNat_natCast]
      simp only [decide_eq_true c] at h2
      have hk1 : (k : Int) - 1 = ((k - 1 : Nat) : Int) := by omega
      (refine callOk_of_wpc (W := fun g => g == 21) true hm' Tryz.func7 rfl (by kernel_rfl) (Nat.le_of_ble_eq_true rfl) (go_start ?_); generalize hQ : Post Tryz.prog Tryz.f7 _ _ _ _ _ = Q; simp only [stIn, matL, matA, st00])
      simp (disch := first | omega | (simp [upd_app, evA]; done) | (simp [upd_app, evA, *]; done) | fail) only [go_sem, ↓k_cond, ↓x_idx, ↓k_block, Nat.reduceEqDiff, Nat.reduceBEq, ↓reduceIte, reduceCtorEq, h, h2, hk1]
      (repeat (with_reducible refine Or.inr ?_))
      refine callW_I (i_l09Best (id := 1) (x := x) (t := k - 1) (by simp [upd_app, hrw, hco]) (by omega) k1 k8 (by omega) (fun t ht => val_fits f1 f2 f3 f4 k8 ht)) (by kernel_rfl) (.inr ⟨rfl, rfl⟩) ?_
      simp (disch := omega) only [go_sem, ↓k_cond, ↓x_idx, ↓k_block, Nat.reduceEqDiff, Nat.reduceBEq, ↓reduceIte, reduceCtorEq]
      refine callW_I (i_l09Better (id := 1) (x := x) (v := valL x (k - 1)) (M := bigV) (by decide) (by simp [upd_app, hrw, hco]) (by omega) k1 k8 (valL_len _)) (by kernel_rfl) (.inl rfl) ?_
      simp (disch := omega) only [go_sem, ↓k_cond, ↓x_idx, ↓k_block, Nat.reduceEqDiff, Nat.reduceBEq, ↓reduceIte, reduceCtorEq]
      rw [← hQ]
      exact postB_own (id := 2) (n := x.room) (len := x.room) (.inl rfl) rfl (by simp [upd_app] <;> omega) (by simp [upd_app] <;> omega) (by simp [upd_app]) (by simp [upd_app, boolA_len, betL_len]) (by simp [upd_app]) (by simp [upd_app]) (Nat.le_refl _) (by simp only [upd_app, if_true]; exact List.take_of_length_le (by rw [boolA_len, betL_len]; exact Nat.le_refl _)) (by simp [upd_app]) (by simp [upd_app]) (boolA_pure _) rfl
    · rw [decide_eq_false c] at h2
      simp only [if_neg c]
      (refine callOk_of_wpc (W := fun g => g == 21) true hm' Tryz.func7 rfl (by kernel_rfl) (Nat.le_of_ble_eq_true rfl) (go_start ?_); generalize hQ : Post Tryz.prog Tryz.f7 _ _ _ _ _ = Q; simp only [stIn, matL, matA, st00])
      simp (disch := first | omega | (simp [upd_app, evA]; done) | (simp [upd_app, evA, *]; done) | fail) only [go_sem, ↓k_cond, ↓x_idx, ↓k_block, Nat.reduceEqDiff, Nat.reduceBEq, ↓reduceIte, reduceCtorEq, h, h2]
      (repeat (with_reducible refine Or.inr ?_))
      rw [← hQ]
      exact postB_two (.inl rfl) rfl (by simp [upd_app] <;> omega) (by simp [upd_app] <;> omega) rfl rfl
theorem w_Mul64 {c : Nat} (hc : c ≤ 13) : CW Tryz.prog 118 [.int .u64 1, .int .u64 c] (.tup [.int .u64 0, .int .u64 c]) := by
 refine cw (by kernel_rfl) (by simp [AV.pure, AV.pureL, natA_pure, natI_pure, natS_pure]) (by simp [AV.pure, AV.pureL, natA_pure, natI_pure, natS_pure]) ?_
 (refine callOk_of_wpc (W := fun _ => false) false hm' Tryz.func118 rfl (by kernel_rfl) (Nat.le_of_ble_eq_true rfl) (go_start ?_); generalize hQ : Post Tryz.prog Tryz.f118 _ _ _ _ _ = Q; simp only [stIn, matL, matA, st00])
 simp (disch := omega) only [go_sem, ↓k_cond, ↓x_idx, ↓k_block, Nat.reduceEqDiff, Nat.reduceBEq, ↓reduceIte, reduceCtorEq]
 (repeat (with_reducible refine Or.inr ?_))
 rw [← hQ]
 exact post_two (.inl rfl) rfl (by first | (simp [upd_app]; done) | (simp [upd_app]; clear hQ; revert hc; revert c; decide +kernel)) (by first | (simp [upd_app]; done) | (simp [upd_app]; clear hQ; revert hc; revert c; decide +kernel)) rfl rfl
attribute [go_sem] w_Mul64
theorem w_Mul {c : Nat} (hc : c ≤ 13) : CW Tryz.prog 102 [.int .u64 1, .int .u64 c] (.tup [.int .u64 0, .int .u64 c]) := by
 refine cw (by kernel_rfl) (by simp [AV.pure, AV.pureL, natA_pure, natI_pure, natS_pure]) (by simp [AV.pure, AV.pureL, natA_pure, natI_pure, natS_pure]) ?_
 have h1 := w_Mul64 (c := c) hc
 (refine callOk_of_wpc (W := fun _ => false) false hm' Tryz.func102 rfl (by kernel_rfl) (Nat.le_of_ble_eq_true rfl) (go_start ?_); generalize hQ : Post Tryz.prog Tryz.f102 _ _ _ _ _ = Q; simp only [stIn, matL, matA, st00])
 simp (disch := omega) only [go_sem, ↓k_cond, ↓x_idx, ↓k_block, Nat.reduceEqDiff, Nat.reduceBEq, ↓reduceIte, reduceCtorEq, h1]
 (repeat (with_reducible refine Or.inr ?_))
 rw [← hQ]
 exact post_two (.inl rfl) rfl (by simp [upd_app] <;> omega) (by simp [upd_app] <;> omega) rfl rfl
theorem rep_step {X : List AV} {c i m : Nat} {v : AV} (hl : X.length = c) (ht : X.take i = List.replicate i v) (h : i + m ≤ c) :
  (List.replicate i v ++ List.replicate m v ++ X.drop (i + m)).length = c ∧ (List.replicate i v ++ List.replicate m v ++ X.drop (i + m)).take (i + m) = List.replicate (i + m) v := by
 refine ⟨by simp; omega, ?_⟩
 rw [List.take_left' (by simp), List.replicate_append_replicate]
theorem i_Repeat1 {c : Nat} (hc : c ≤ 13) (h1 : 1 ≤ c) : CallOk Tryz.prog 84 [.sl 53 [rI 64 0] [] true, .int .i64 c] (.own 53 (ratL 64 (List.replicate c 0)) [] true) [] := by
  have hm := w_Mul (c := c) hc
  have hrep : ratL 64 (List.replicate c 0) = List.replicate c (rI 64 0) := by rw [ratL, List.map_replicate]
  rw [hrep]
  (refine callOk_of_wpc (W := fun _ => false) true hm' Tryz.func84 rfl (by kernel_rfl) (Nat.le_of_ble_eq_true rfl) (go_start ?_); generalize hQ : Post Tryz.prog Tryz.f84 _ _ _ _ _ = Q; simp only [stIn, matL, matA, st00])
  have u1 : Tryz.prog.underlying 129 = some (.int .u64) := by kernel_rfl
  have u2 : okT Tryz.prog 129 = true := by kernel_rfl
  have w1 : IntKind.u64.wrap (c : Int) = c := by simp only [IntKind.wrap, IntKind.signed, IntKind.bits, Bool.false_and, Bool.false_eq_true, if_false]; omega
  have w2 : IntKind.u64.wrap 1 = 1 := by decide
  have w3 : IntKind.u64.wrap ((1 : Nat) : Int) = 1 := by decide
  simp (disch := omega) only [go_sem, ↓k_cond, ↓x_idx, ↓k_block, Nat.reduceEqDiff, Nat.reduceBEq, ↓reduceIte, reduceCtorEq, hm, reach, u1, u2, w1, w2, w3, copyA, List.length_cons, List.length_nil, List.length_replicate, List.take_zero, List.nil_append]
  (repeat (with_reducible refine Or.inr ?_))
  refine k_loop (fun (p : Nat × List AV) st => st.fr 7 = .ref 0 c 0 c ∧ st.fr 8 = .int .i64 p.1 ∧ st.h 0 = ⟨53, p.2, true, true, true⟩ ∧ p.2.length = c ∧ p.2.take p.1 = List.replicate p.1 (rI 64 0) ∧ 1 ≤ p.1 ∧ p.1 ≤ c) (fun p => c - p.1) (1, rI 64 0 :: List.replicate (c - 1) (.agg [.bool false, .nil, .nil]))
    ⟨(by simp [upd_app] <;> omega), (by simp [upd_app] <;> omega), by simp [upd_app], by simp; omega, by simp, by simp, h1⟩ ?_
  rintro ⟨i, X⟩ ⟨fr, h, nx⟩ ⟨g7, g8, hm0, hl, ht, hi1, hi⟩ J hJ
  simp only at g7 g8 hm0 hl ht hi1 hi
  by_cases hin : i < c
  · by_cases hc2 : i ≤ c - i
    · obtain ⟨k1, k2⟩ := rep_step hl ht (m := i) (by omega)
      simp (disch := omega) only [go_sem, ↓k_cond, ↓x_idx, ↓k_block, Nat.reduceEqDiff, Nat.reduceBEq, ↓reduceIte, reduceCtorEq, g7, g8, hm0, hl, ht, copyA, List.length_replicate, List.drop_zero, Nat.sub_zero]
      (repeat (with_reducible refine Or.inr ?_))
      exact hJ (i + i, List.replicate i (rI 64 0) ++ List.replicate i (rI 64 0) ++ X.drop (i + i)) _ ⟨(by simp [upd_app, g7] <;> omega), (by simp [upd_app] <;> omega), (by simp [upd_app] <;> omega), k1, k2, by simp only; omega, by simp only; omega⟩ (by simp only; omega)
    · obtain ⟨k1, k2⟩ := rep_step hl ht (m := c - i) (by omega)
      have ht2 : X.take (c - i) = List.replicate (c - i) (rI 64 0) := by
        have := congrArg (List.take (c - i)) ht
        rwa [List.take_take, Nat.min_eq_left (by omega), List.take_replicate, Nat.min_eq_left (by omega)] at this
      simp (disch := omega) only [go_sem, ↓k_cond, ↓x_idx, ↓k_block, Nat.reduceEqDiff, Nat.reduceBEq, ↓reduceIte, reduceCtorEq, g7, g8, hm0, hl, ht, ht2, copyA, List.length_replicate, List.drop_zero, Nat.sub_zero]
      (repeat (with_reducible refine Or.inr ?_))
      exact hJ (i + (c - i), List.replicate i (rI 64 0) ++ List.replicate (c - i) (rI 64 0) ++ X.drop (i + (c - i))) _ ⟨(by simp [upd_app, g7] <;> omega), (by simp [upd_app] <;> omega), (by simp [upd_app] <;> omega), k1, k2, by simp only; omega, by simp only; omega⟩ (by simp only; omega)
  · obtain rfl : i = c := by omega
    rw [List.take_of_length_le (by omega)] at ht
    subst ht
    simp (disch := omega) only [go_sem, ↓k_cond, ↓x_idx, ↓k_block, Nat.reduceEqDiff, Nat.reduceBEq, ↓reduceIte, reduceCtorEq, g7, g8, hm0]
    rw [← hQ]
    exact post_own (id := 0) (n := i) (len := i) (.inl rfl) rfl (by simp [upd_app] <;> omega) (by simp [hm0]) (by simp [hm0]) (by simp [hm0]) (by simp [hm0]) (Nat.le_refl _) (by simp [hm0]) (by simp [hm0]) (by simp [hm0]) (by rw [← hrep]; simp) rfl
theorem c_nothing {n : Nat} (hn : n ≤ 13) (h1 : 1 ≤ n) : CallOk Tryz.prog 50 [.int .i64 n] (.own 53 (ratL 64 (List.replicate n 0)) [] true) [] := by
 have hw : CW Tryz.prog 48 [.int .i64 0] (rI 64 0) := w_whole (n := 0) (by omega) (by omega)
 (refine callOk_of_wpc (W := fun g => g == 84) true hm' Tryz.func50 rfl (by kernel_rfl) (Nat.le_of_ble_eq_true rfl) (go_start ?_); generalize hQ : Post Tryz.prog Tryz.f50 _ _ _ _ _ = Q; simp only [stIn, matL, matA, st00])
 simp (disch := omega) only [go_sem, ↓k_cond, ↓x_idx, ↓k_block, Nat.reduceEqDiff, Nat.reduceBEq, ↓reduceIte, reduceCtorEq, hw]
 (repeat (with_reducible refine Or.inr ?_))
 refine callW_O (i_Repeat1 (c := n) hn h1) (by kernel_rfl) (by simp [AV.pure, AV.pureL, natA_pure, natI_pure, natS_pure]) ratL_pure rfl rfl ?_
 simp only [List.length_nil, Nat.add_zero, List.append_nil, ratL_length, List.length_replicate]
 simp (disch := omega) only [go_sem, ↓k_cond, ↓x_idx, ↓k_block, Nat.reduceEqDiff, Nat.reduceBEq, ↓reduceIte, reduceCtorEq]
 rw [← hQ]
 exact post_own (id := 0) (n := n) (len := n) (.inl rfl) rfl (by simp [upd_app] <;> omega) (by simp [upd_app]) (by simp [upd_app, ratL_length]) (by simp [upd_app]) (by simp [upd_app]) (Nat.le_refl _) (by simp only [upd_app, if_true]; exact List.take_of_length_le (by rw [ratL_length, List.length_replicate]; exact Nat.le_refl _)) (by simp [upd_app, ratL_length]) (by simp [upd_app]) (by simp) rfl
attribute [go_sem] w_Mul
theorem w_letIn {x : MR} {v : List Rat} {M n : Nat} (hM : M ≤ 10000000) (hn : n + 1 < v.length) (hl : v.length ≤ 1000) : CW Tryz.prog 49 [x.iv, lI M v, .int .i64 n] (.bool (betB x v n)) := by
 refine cw (by kernel_rfl) (by simp [AV.pure, AV.pureL, natA_pure, natI_pure, natS_pure]) (by simp [AV.pure, AV.pureL, natA_pure, natI_pure, natS_pure]) ?_
 obtain ⟨p, hp⟩ := get_some (xs := v) (i := n) (by omega)
 obtain ⟨q, hq⟩ := get_some (xs := v) (i := n + 1) (by omega)
 have hqk : ((n : Int) + 1).toNat = n + 1 := by omega
 have hcmp := w_cmp (m := 700 + M + 1) (n := M) (a := x.reward + q) (b := p) (by omega)
 have hb : betB x v n = decide (0 ≤ cmpR (x.reward + q) p) := by
  rw [betB, getD_of hp, getD_of hq]
  exact decide_eq_decide.2 ((Rat.not_lt (a := x.reward + q) (b := p)).symm.trans ((not_congr cmpR_lt.symm).trans (by omega)))
 rw [hb]
 generalize cmpR (x.reward + q) p = c at *
 by_cases hc : 0 ≤ c
 all_goals
  (refine callOk_of_wpc (W := fun _ => false) false hm' Tryz.func49 rfl (by kernel_rfl) (Nat.le_of_ble_eq_true rfl) (go_start ?_); generalize hQ : Post Tryz.prog Tryz.f49 _ _ _ _ _ = Q; simp only [stIn, matL, matA, st00])
  simp (disch := omega) only [go_sem, ↓k_cond, ↓x_idx, ↓k_block, Nat.reduceEqDiff, Nat.reduceBEq, ↓reduceIte, reduceCtorEq, hp, hq, hqk, hcmp]
  (repeat (with_reducible refine Or.inr ?_))
  rw [← hQ]
  exact post_one (.inl rfl) rfl (by simp [upd_app, hc] <;> omega) rfl
theorem i_act {x : MR} {v : List Rat} {M n id1 id2 : Nat} {fr : Nat → AV} {h : Nat → Blk} {nx : Nat} (hM : M ≤ 10000000) (hn : n + 1 < v.length) (hl : v.length ≤ 1000) (h1 : h id1 = ⟨55, [x.iv], true, false, true⟩) (h2 : h id2 = ⟨59, [lI M v], true, false, true⟩) :
  InOk Tryz.prog ⟨fr, h, nx⟩ 52 [.int .i64 n, .ptr id1 1 0 0, .ptr id2 1 0 0] (.bool (betB x v n)) ⟨fr, h, nx⟩ := by
 have hlet := w_letIn (x := x) hM hn hl
 refine inOkS0 (W := ⟨fun _ => false, fun _ => none⟩) hm' Tryz.func52 rfl (by kernel_rfl) (Nat.le_of_ble_eq_true rfl) (go_start ?_)
 generalize hQ : PostS Tryz.prog Tryz.f52 _ _ _ _ = Q
 simp (disch := omega) only [go_sem, ↓k_cond, ↓x_idx, ↓k_block, Nat.reduceEqDiff, Nat.reduceBEq, ↓reduceIte, reduceCtorEq, h1, h2, hlet]
 (repeat (with_reducible refine Or.inr ?_))
 rw [← hQ]
 exact postS_one (.inl rfl) rfl (by simp [upd_app] <;> omega) rfl (fun _ _ _ => rfl)
set_option maxHeartbeats 8000000 in
theorem i_backward {fr : Nat → AV} {h : Nat → Blk} {nx id1 id2 M : Nat} {x : MR} {v : List Rat} (hM : M ≤ 10000000) (h1 : h id1 = ⟨55, [x.iv], true, false, true⟩) (h2 : h id2 = ⟨59, [lI M v], true, false, true⟩) (hid1 : id1 < nx) (hid2 : id2 < nx)
    (hr1 : 1 ≤ x.room) (h8 : x.room ≤ 8) (hv : v.length = x.room + 1) (hf : ∀ n, n ≤ x.room → fits M (plnF x v (betB x v) n)) :
    InOk Tryz.prog ⟨fr, h, nx⟩ 51 [x.iv, lI M v, .fn (.func 52) [] [.ptr id1 1 0 0, .ptr id2 1 0 0]] (lI M (plnL x v (betB x v))) ⟨fr, h, nx⟩ := by
  refine inOkS0 (W := ⟨fun _ => false, fun r => if r = 8 then some [(2, 7), (5, 7)] else if r = 9 then some [(1, 11), (7, 11), (8, 11)] else none⟩) hm' Tryz.func51 rfl (by kernel_rfl) (Nat.le_of_ble_eq_true rfl) (go_start ?_)
  generalize hQ : PostS Tryz.prog Tryz.f51 _ _ _ _ = Q
  obtain ⟨r, hr⟩ : ∃ r, x.room = r := ⟨_, rfl⟩
  rw [plnL] at hQ
  rw [hr] at hr1 h8 hQ hv hf
  simp (disch := omega) only [go_sem, ↓k_cond, ↓x_idx, ↓k_block, Nat.reduceEqDiff, Nat.reduceBEq, ↓reduceIte, reduceCtorEq, ↓k_appE, hv]
  refine k_loop (fun (n : Nat) st => st.fr 1 = lI M v ∧ st.fr 2 = .fn (.func 52) [] [.ptr id1 1 0 0, .ptr id2 1 0 0] ∧ st.fr 3 = .ptr nx 1 0 0 ∧ st.fr 7 = .ref (nx + 1) n 0 n ∧ st.fr 14 = .int .i64 ((r + 1 : Nat) : Int) ∧ st.fr 15 = .int .i64 n ∧ st.h nx = ⟨55, [x.iv], true, false, true⟩ ∧ st.h (nx + 1) = ⟨53, ratL M (mapF n (plnF x v (betB x v))), (n == 0), true, true⟩ ∧ (∀ i, i < nx → st.h i = h i) ∧ nx + 1 < st.nx ∧ n ≤ r + 1) (fun n => r + 1 - n) 0
    ⟨(by simp [upd_app] <;> omega), (by simp [upd_app] <;> omega), (by simp [upd_app] <;> omega), (by simp [upd_app] <;> omega), (by simp [upd_app, hv] <;> omega), (by simp [upd_app] <;> omega), by simp [upd_app], by simp [upd_app, ratL, mapF], fun i hi => by simp (disch := omega) only [upd_app, ↓reduceIte, if_neg], by simp, by omega⟩ ?_
  rintro n ⟨fr1, h3, nx1⟩ ⟨g1, g2, g3, g7, g14, g15, hmm, hm0, hold, hnx, hn⟩ J hJ
  simp only at g1 g2 g3 g7 g14 g15 hmm hm0 hold hnx
  have ha1 : h3 id1 = ⟨55, [x.iv], true, false, true⟩ := by rw [hold id1 hid1]; exact h1
  have ha2 : h3 id2 = ⟨59, [lI M v], true, false, true⟩ := by rw [hold id2 hid2]; exact h2
  have hel : (ratL M (mapF n (plnF x v (betB x v)))).length = n := by rw [ratL_length, mapF_len]
  by_cases hin : n < r + 1
  · have hz1 : (n + 1 == 0) = false := by simp
    obtain ⟨p, hp⟩ := get_some (xs := v) (i := n) (by omega)
    obtain ⟨z, hz⟩ := get_some (xs := v) (i := n - 1) (by omega)
    have hsn : ratL M (mapF n (plnF x v (betB x v))) ++ [rI M (plnF x v (betB x v) n)] = ratL M (mapF (n + 1) (plnF x v (betB x v))) := by rw [mapF_succ, ratL_snoc]
    have hfn := hf n (by omega)
    have hw1 : CW Tryz.prog 48 [.int .i64 1] (rI 64 1) := w_whole (n := 1) (by omega) (by omega)
    have hwn : CW Tryz.prog 48 [.int .i64 n] (rI 64 ((n : Int) : Rat)) := w_whole (n := n) (by omega) (by omega)
    have key := hJ (n + 1)
    clear hJ
    have hre0 : ∀ c, comR x v (betB x v n) n = c → ∀ k, M ≤ k → rI k (-(x.cost * ((n : Int) : Rat)) + x.come * c + x.serve * z + (1 - x.come - x.serve) * p) = rI M (plnF x v (betB x v) n) := fun c hc k hk => by
      have e : plnF x v (betB x v) n = -(x.cost * ((n : Int) : Rat)) + x.come * c + x.serve * z + (1 - x.come - x.serve) * p := by rw [plnF, hc, stayR, getD_of hp, getD_of hz]
      rw [← e]; exact rI_le hfn hk
    by_cases c : n < r
    · obtain ⟨q, hq⟩ := get_some (xs := v) (i := n + 1) (by omega)
      have hqk : ((n : Int) + 1).toNat = n + 1 := by omega
      cases hbb : betB x v n with
      | true =>
        have hre := hre0 (x.reward + q) (by rw [comR, hbb, if_pos ⟨by omega, rfl⟩, getD_of hq])
        clear hre0
        generalize plnF x v (betB x v) n = w at *
        simp (disch := omega) only [go_sem, ↓k_cond, ↓x_idx, ↓k_block, Nat.reduceEqDiff, Nat.reduceBEq, ↓reduceIte, reduceCtorEq, ↓k_appE, g1, g2, g3, g7, g14, g15, hmm, hr, hp]
        rw [x_callC (g := 52) (first := []) (cap := [.ptr id1 1 0 0, .ptr id2 1 0 0]) (by simp [upd_app, g2]) rfl]
        simp (disch := omega) only [go_sem, ↓k_cond, ↓x_idx, ↓k_block, Nat.reduceEqDiff, Nat.reduceBEq, ↓reduceIte, reduceCtorEq, ↓k_appE, g1, g2, g3, g7, g14, g15, hmm, hr, hp, List.nil_append, List.cons_append]
        refine callW_I (i_act (x := x) (v := v) (M := M) (n := n) (id1 := id1) (id2 := id2) hM (by omega) (by omega) (by simp (disch := omega) only [upd_app, ↓reduceIte, if_neg, ha1]) (by simp (disch := omega) only [upd_app, ↓reduceIte, if_neg, ha2])) (by kernel_rfl) (.inr ⟨rfl, rfl⟩) ?_
        rw [hbb]
        by_cases n0 : n = 0
        · have hz' : v[0]? = some z := by rw [n0] at hz; exact hz
          simp (disch := omega) only [go_sem, ↓k_cond, ↓x_idx, ↓k_block, Nat.reduceEqDiff, Nat.reduceBEq, ↓reduceIte, reduceCtorEq, ↓k_appE, g1, g2, g3, g7, g14, g15, hmm, hr, hp, hq, hqk, hz', hw1, hwn, hre, hm0, hel, reach]
          (repeat (with_reducible refine Or.inr ?_))
          exact key _ ⟨(by simp [upd_app, g1] <;> omega), (by simp [upd_app, g2] <;> omega), (by simp [upd_app, g3] <;> omega), (by simp [upd_app] <;> omega), (by simp [upd_app, g14] <;> omega), (by simp [upd_app] <;> omega), (by simp (disch := omega) only [upd_app, ↓reduceIte, if_pos, if_neg, hmm]), (by simp (disch := omega) only [upd_app, ↓reduceIte, if_pos, if_neg, hsn, hz1]), fun i hi => (by simp (disch := omega) only [upd_app, ↓reduceIte, if_neg, hold i hi]), (by simp only; omega), (by omega)⟩ (by omega)
        · have hqk1 : ((n : Int) - 1).toNat = n - 1 := by omega
          simp (disch := omega) only [go_sem, ↓k_cond, ↓x_idx, ↓k_block, Nat.reduceEqDiff, Nat.reduceBEq, ↓reduceIte, reduceCtorEq, ↓k_appE, g1, g2, g3, g7, g14, g15, hmm, hr, hp, hq, hqk, hz, hqk1, hw1, hwn, hre, hm0, hel, reach]
          (repeat (with_reducible refine Or.inr ?_))
          exact key _ ⟨(by simp [upd_app, g1] <;> omega), (by simp [upd_app, g2] <;> omega), (by simp [upd_app, g3] <;> omega), (by simp [upd_app] <;> omega), (by simp [upd_app, g14] <;> omega), (by simp [upd_app] <;> omega), (by simp (disch := omega) only [upd_app, ↓reduceIte, if_pos, if_neg, hmm]), (by simp (disch := omega) only [upd_app, ↓reduceIte, if_pos, if_neg, hsn, hz1]), fun i hi => (by simp (disch := omega) only [upd_app, ↓reduceIte, if_neg, hold i hi]), (by simp only; omega), (by omega)⟩ (by omega)
      | false =>
        have hre := hre0 p (by rw [comR, hbb, if_neg (by simp), getD_of hp])
        clear hre0
        generalize plnF x v (betB x v) n = w at *
        simp (disch := omega) only [go_sem, ↓k_cond, ↓x_idx, ↓k_block, Nat.reduceEqDiff, Nat.reduceBEq, ↓reduceIte, reduceCtorEq, ↓k_appE, g1, g2, g3, g7, g14, g15, hmm, hr, hp]
        rw [x_callC (g := 52) (first := []) (cap := [.ptr id1 1 0 0, .ptr id2 1 0 0]) (by simp [upd_app, g2]) rfl]
        simp (disch := omega) only [go_sem, ↓k_cond, ↓x_idx, ↓k_block, Nat.reduceEqDiff, Nat.reduceBEq, ↓reduceIte, reduceCtorEq, ↓k_appE, g1, g2, g3, g7, g14, g15, hmm, hr, hp, List.nil_append, List.cons_append]
        refine callW_I (i_act (x := x) (v := v) (M := M) (n := n) (id1 := id1) (id2 := id2) hM (by omega) (by omega) (by simp (disch := omega) only [upd_app, ↓reduceIte, if_neg, ha1]) (by simp (disch := omega) only [upd_app, ↓reduceIte, if_neg, ha2])) (by kernel_rfl) (.inr ⟨rfl, rfl⟩) ?_
        rw [hbb]
        by_cases n0 : n = 0
        · have hz' : v[0]? = some z := by rw [n0] at hz; exact hz
          simp (disch := omega) only [go_sem, ↓k_cond, ↓x_idx, ↓k_block, Nat.reduceEqDiff, Nat.reduceBEq, ↓reduceIte, reduceCtorEq, ↓k_appE, g1, g2, g3, g7, g14, g15, hmm, hr, hp, hq, hqk, hz', hw1, hwn, hre, hm0, hel, reach]
          (repeat (with_reducible refine Or.inr ?_))
          exact key _ ⟨(by simp [upd_app, g1] <;> omega), (by simp [upd_app, g2] <;> omega), (by simp [upd_app, g3] <;> omega), (by simp [upd_app] <;> omega), (by simp [upd_app, g14] <;> omega), (by simp [upd_app] <;> omega), (by simp (disch := omega) only [upd_app, ↓reduceIte, if_pos, if_neg, hmm]), (by simp (disch := omega) only [upd_app, ↓reduceIte, if_pos, if_neg, hsn, hz1]), fun i hi => (by simp (disch := omega) only [upd_app, ↓reduceIte, if_neg, hold i hi]), (by simp only; omega), (by omega)⟩ (by omega)
        · have hqk1 : ((n : Int) - 1).toNat = n - 1 := by omega
          simp (disch := omega) only [go_sem, ↓k_cond, ↓x_idx, ↓k_block, Nat.reduceEqDiff, Nat.reduceBEq, ↓reduceIte, reduceCtorEq, ↓k_appE, g1, g2, g3, g7, g14, g15, hmm, hr, hp, hq, hqk, hz, hqk1, hw1, hwn, hre, hm0, hel, reach]
          (repeat (with_reducible refine Or.inr ?_))
          exact key _ ⟨(by simp [upd_app, g1] <;> omega), (by simp [upd_app, g2] <;> omega), (by simp [upd_app, g3] <;> omega), (by simp [upd_app] <;> omega), (by simp [upd_app, g14] <;> omega), (by simp [upd_app] <;> omega), (by simp (disch := omega) only [upd_app, ↓reduceIte, if_pos, if_neg, hmm]), (by simp (disch := omega) only [upd_app, ↓reduceIte, if_pos, if_neg, hsn, hz1]), fun i hi => (by simp (disch := omega) only [upd_app, ↓reduceIte, if_neg, hold i hi]), (by simp only; omega), (by omega)⟩ (by omega)
    · have hqk1 : ((n : Int) - 1).toNat = n - 1 := by omega
      have hre := hre0 p (by rw [comR, if_neg (fun h => by omega), getD_of hp])
      clear hre0
      generalize plnF x v (betB x v) n = w at *
      simp (disch := omega) only [go_sem, ↓k_cond, ↓x_idx, ↓k_block, Nat.reduceEqDiff, Nat.reduceBEq, ↓reduceIte, reduceCtorEq, ↓k_appE, g1, g2, g3, g7, g14, g15, hmm, hr, hp, hz, hqk1, hw1, hwn, hre, hm0, hel, reach]
      (repeat (with_reducible refine Or.inr ?_))
      exact key _ ⟨(by simp [upd_app, g1] <;> omega), (by simp [upd_app, g2] <;> omega), (by simp [upd_app, g3] <;> omega), (by simp [upd_app] <;> omega), (by simp [upd_app, g14] <;> omega), (by simp [upd_app] <;> omega), (by simp (disch := omega) only [upd_app, ↓reduceIte, if_pos, if_neg, hmm]), (by simp (disch := omega) only [upd_app, ↓reduceIte, if_pos, if_neg, hsn, hz1]), fun i hi => (by simp (disch := omega) only [upd_app, ↓reduceIte, if_neg, hold i hi]), (by simp only; omega), (by omega)⟩ (by omega)
  · obtain rfl : n = r + 1 := by omega
    simp (disch := omega) only [go_sem, ↓k_cond, ↓x_idx, ↓k_block, Nat.reduceEqDiff, Nat.reduceBEq, ↓reduceIte, reduceCtorEq, ↓k_appE, g1, g2, g3, g7, g14, g15]
    rw [← hQ]
    exact postS_frozen (id := nx + 1) (n := r + 1) (off := 0) (len := r + 1) (.inl rfl) rfl (by simp [upd_app] <;> omega) (by simp [hm0]) (by simp [hm0, hel]) (by simp [hm0]) (by omega) (by omega) (by simp only [hm0, List.drop_zero]; exact List.take_of_length_le (by omega)) (by simp) (fun i hi _ => by simp only; exact hold i hi)
theorem c_values {x : MR} {t : Nat} (hr1 : 1 ≤ x.room) (h8 : x.room ≤ 8) (ht : t ≤ 24) (hf : ∀ k, k ≤ 24 → ∀ i, fits bigV ((valL x k).getD i 0)) : CallOk Tryz.prog 26 [x.iv, .int .i64 t] (lI bigV (valL x t)) [] := by
  have hB : bigV = 90000 := rfl
  have hn : CW Tryz.prog 50 [.int .i64 ((x.room + 1 : Nat) : Int)] (lI bigV (valL x 0)) := by
    have h0 : ratL 64 (List.replicate (x.room + 1) 0) = ratL bigV (valL x 0) := by
      rw [valL]
      exact List.map_congr_left fun q hq => by obtain rfl := List.eq_of_mem_replicate hq; exact rI_re (zero_fits _ (by decide)) (zero_fits _ (by decide))
    have := (c_nothing (n := x.room + 1) (by omega) (by omega)).freeze1 (by simp)
    rw [h0] at this
    exact cw (by kernel_rfl) (by simp [AV.pure, AV.pureL, natA_pure, natI_pure, natS_pure]) (by simp [AV.pure, AV.pureL, natA_pure, natI_pure, natS_pure]) this
  obtain ⟨r, hr⟩ : ∃ r, x.room = r := ⟨_, rfl⟩
  rw [hr] at hn
  (refine callOk_of_wpc (W := fun _ => false) false hm' Tryz.func26 rfl (by kernel_rfl) (Nat.le_of_ble_eq_true rfl) (go_start ?_); generalize hQ : Post Tryz.prog Tryz.f26 _ _ _ _ _ = Q; simp only [stIn, matL, matA, st00])
  simp (disch := omega) only [go_sem, ↓k_cond, ↓x_idx, ↓k_block, Nat.reduceEqDiff, Nat.reduceBEq, ↓reduceIte, reduceCtorEq, hr, hn]
  (repeat (with_reducible refine Or.inr ?_))
  refine k_loop (fun (k : Nat) st => st.fr 2 = .ptr 0 1 0 0 ∧ st.fr 5 = lI bigV (valL x k) ∧ st.fr 11 = .int .i64 t ∧ st.fr 12 = .int .i64 k ∧ st.h 0 = ⟨55, [x.iv], true, false, true⟩ ∧ 0 < st.nx ∧ k ≤ t) (fun k => t - k) 0
    ⟨(by simp [upd_app] <;> omega), (by simp [upd_app] <;> omega), (by simp [upd_app] <;> omega), (by simp [upd_app] <;> omega), by simp [upd_app, hr], by simp, by omega⟩ ?_
  rintro k ⟨fr1, h2, nx1⟩ ⟨g2, g5, g11, g12, hm0, hnx, hk⟩ J hJ
  simp only at g2 g5 g11 g12 hm0 hnx
  by_cases hin : k < t
  · have hfn : ∀ n, n ≤ x.room → fits bigV (plnF x (valL x k) (betB x (valL x k)) n) := fun n hn => by
      have := hf (k + 1) (by omega) n
      rw [valL, plnL, getD_of (mapF_at (by omega))] at this
      exact this
    have key := hJ (k + 1)
    clear hJ
    simp (disch := omega) only [go_sem, ↓k_cond, ↓x_idx, ↓k_block, Nat.reduceEqDiff, Nat.reduceBEq, ↓reduceIte, reduceCtorEq, g2, g5, g11, g12, hm0]
    refine callW_I (i_backward (id1 := 0) (id2 := nx1) (x := x) (v := valL x k) (M := bigV) (by omega) (by simp (disch := omega) only [upd_app, ↓reduceIte, if_neg, hm0]) (by simp [upd_app]) (by omega) (by omega) hr1 h8 (valL_len k) hfn) (by kernel_rfl) (.inr ⟨rfl, rfl⟩) ?_
    simp (disch := omega) only [go_sem, ↓k_cond, ↓x_idx, ↓k_block, Nat.reduceEqDiff, Nat.reduceBEq, ↓reduceIte, reduceCtorEq, g2, g5, g11, g12, hm0]
    exact key _ ⟨(by simp [upd_app, g2] <;> omega), by simp [upd_app, valL], (by simp [upd_app, g11] <;> omega), (by simp [upd_app] <;> omega), (by simp (disch := omega) only [upd_app, ↓reduceIte, if_neg, hm0]), (by simp only; omega), (by omega)⟩ (by omega)
  · obtain rfl : k = t := by omega
    simp (disch := omega) only [go_sem, ↓k_cond, ↓x_idx, ↓k_block, Nat.reduceEqDiff, Nat.reduceBEq, ↓reduceIte, reduceCtorEq, g2, g5, g11, g12]
    rw [← hQ]
    exact post_one (.inl rfl) rfl (by simp [upd_app] <;> omega) (by simp [AV.pure, AV.pureL, natA_pure, natI_pure, natS_pure])
theorem c_better {x : MR} {v : List Rat} {M : Nat} (hM : M ≤ 10000000) (hr1 : 1 ≤ x.room) (h8 : x.room ≤ 8) (hv : v.length = x.room + 1) : CallOk Tryz.prog 25 [x.iv, lI M v] (.own 4 (boolA (betL x v)) [] false) [] := by
  obtain ⟨r, hr⟩ : ∃ r, x.room = r := ⟨_, rfl⟩
  rw [betL]
  rw [hr] at hr1 h8 hv ⊢
  (refine callOk_of_wpc (W := fun _ => false) true hm' Tryz.func25 rfl (by kernel_rfl) (Nat.le_of_ble_eq_true rfl) (go_start ?_); generalize hQ : Post Tryz.prog Tryz.f25 _ _ _ _ _ = Q; simp only [stIn, matL, matA, st00])
  simp (disch := omega) only [go_sem, ↓k_cond, ↓x_idx, ↓k_block, Nat.reduceEqDiff, Nat.reduceBEq, ↓reduceIte, reduceCtorEq, hr]
  refine k_loop (fun (n : Nat) st => st.fr 1 = lI M v ∧ st.fr 2 = .ptr 0 1 0 0 ∧ st.fr 5 = .ref 1 n 0 n ∧ st.fr 9 = .int .i64 r ∧ st.fr 10 = .int .i64 n ∧ st.h 0 = ⟨55, [x.iv], true, false, true⟩ ∧ st.h 1 = ⟨4, boolA ((List.range n).map (betB x v)), (n == 0), true, true⟩ ∧ n ≤ r) (fun n => r - n) 0
    ⟨(by simp [upd_app] <;> omega), (by simp [upd_app] <;> omega), (by simp [upd_app] <;> omega), (by simp [upd_app] <;> omega), (by simp [upd_app] <;> omega), by simp [upd_app, hr], by simp [upd_app, boolA], by omega⟩ ?_
  rintro n ⟨fr1, h2, nx1⟩ ⟨g1, g2, g5, g9, g10, hm0, hm1, hn⟩ J hJ
  simp only at g1 g2 g5 g9 g10 hm0 hm1
  have hel : (boolA ((List.range n).map (betB x v))).length = n := by simp [boolA_len]
  by_cases hin : n < r
  · have hz1 : (n + 1 == 0) = false := by simp
    have hlet := w_letIn (x := x) (v := v) (M := M) (n := n) hM (by omega) (by omega)
    have hsn : boolA ((List.range n).map (betB x v)) ++ [.bool (betB x v n)] = boolA ((List.range (n + 1)).map (betB x v)) := by rw [boolA_snoc, betL_succ]
    generalize betB x v n = b at hlet hsn
    simp (disch := omega) only [go_sem, ↓k_cond, ↓x_idx, ↓k_block, Nat.reduceEqDiff, Nat.reduceBEq, ↓reduceIte, reduceCtorEq, g1, g2, g5, g9, g10, hm0, hm1, hel, hlet, reach]
    (repeat (with_reducible refine Or.inr ?_))
    exact hJ (n + 1) _ ⟨(by simp [upd_app, g1] <;> omega), (by simp [upd_app, g2] <;> omega), (by simp [upd_app] <;> omega), (by simp [upd_app, g9] <;> omega), (by simp [upd_app] <;> omega), by simp [upd_app, hm0], by simp only [upd_app, ↓reduceIte, hsn, hz1], hin⟩ (by omega)
  · obtain rfl : n = r := by omega
    have hz : (n == 0) = false := by simp; omega
    rw [hz] at hm1
    simp (disch := omega) only [go_sem, ↓k_cond, ↓x_idx, ↓k_block, Nat.reduceEqDiff, Nat.reduceBEq, ↓reduceIte, reduceCtorEq, g1, g2, g5, g9, g10]
    rw [← hQ]
    exact post_own (id := 1) (n := n) (len := n) (.inl rfl) rfl (by simp [upd_app] <;> omega) (by simp [hm1]) (by simp [hm1, boolA_len]) (by simp [hm1]) (by simp [hm1]) (Nat.le_refl _) (by simp only [hm1]; exact List.take_of_length_le (by simp [boolA_len])) (by simp [hm1]) (by simp [hm1]) (boolA_pure _) rfl
theorem i_BestActs {m : Mdl} {l : Int} (hs : m.small) : CallOk Tryz.prog 9 [m.av, .int .i64 l] (optB false (bestT m l)) [] := by
  have h1 := i_modelOf m hs
  have h2 := w_in (n := l) (a := 1) (b := 24)
  unfold bestT
  cases hq : modR m with
  | none =>
    rw [hq] at h1
    (refine callOk_of_wpc (W := fun g => g == 25) true hm' Tryz.func9 rfl (by kernel_rfl) (Nat.le_of_ble_eq_true rfl) (go_start ?_); generalize hQ : Post Tryz.prog Tryz.f9 _ _ _ _ _ = Q; simp only [stIn, matL, matA, st00])
    simp (disch := omega) only [go_sem, ↓k_cond, ↓x_idx, ↓k_block, Nat.reduceEqDiff, Nat.reduceBEq, ↓reduceIte, reduceCtorEq, h1]
    (repeat (with_reducible refine Or.inr ?_))
    rw [← hQ]
    exact postB_two (.inl rfl) rfl (by simp [upd_app] <;> omega) (by simp [upd_app] <;> omega) rfl rfl
  | some x =>
    rw [hq] at h1
    obtain ⟨f1, f2, f3, f4, k1, k8, hroom, _⟩ := modR_fits hq
    by_cases c : 1 ≤ l ∧ l ≤ 24
    · obtain ⟨k, rfl⟩ : ∃ k : Nat, l = k := ⟨l.toNat, by omega⟩
      simp only [if_pos c, Int.toNat_natCast]
      simp only [decide_eq_true c] at h2
      have hk1 : (k : Int) - 1 = ((k - 1 : Nat) : Int) := by omega
      have hval := cw (by kernel_rfl) (by simp [AV.pure, AV.pureL, natA_pure, natI_pure, natS_pure]) (by simp [AV.pure, AV.pureL, natA_pure, natI_pure, natS_pure]) (c_values (x := x) (t := k - 1) k1 k8 (by omega) (fun t ht => val_fits f1 f2 f3 f4 k8 ht))
      (refine callOk_of_wpc (W := fun g => g == 25) true hm' Tryz.func9 rfl (by kernel_rfl) (Nat.le_of_ble_eq_true rfl) (go_start ?_); generalize hQ : Post Tryz.prog Tryz.f9 _ _ _ _ _ = Q; simp only [stIn, matL, matA, st00])
      simp (disch := omega) only [go_sem, ↓k_cond, ↓x_idx, ↓k_block, Nat.reduceEqDiff, Nat.reduceBEq, ↓reduceIte, reduceCtorEq, h1, h2, hk1, hval]
      (repeat (with_reducible refine Or.inr ?_))
      refine callW_O (c_better (x := x) (v := valL x (k - 1)) (M := bigV) (by decide) k1 k8 (valL_len _)) (by kernel_rfl) (by simp [AV.pure, AV.pureL, natA_pure, natI_pure, natS_pure]) (boolA_pure _) rfl rfl ?_
      simp only [List.length_nil, Nat.add_zero, List.append_nil, boolA_len, betL_len]
      simp (disch := omega) only [go_sem, ↓k_cond, ↓x_idx, ↓k_block, Nat.reduceEqDiff, Nat.reduceBEq, ↓reduceIte, reduceCtorEq]
      rw [← hQ]
      exact postB_own (id := 2) (n := x.room) (len := x.room) (.inl rfl) rfl (by simp [upd_app] <;> omega) (by simp [upd_app] <;> omega) (by simp [upd_app]) (by simp [upd_app, boolA_len, betL_len]) (by simp [upd_app]) (by simp [upd_app]) (Nat.le_refl _) (by simp only [upd_app, if_true]; exact List.take_of_length_le (by rw [boolA_len, betL_len]; exact Nat.le_refl _)) (by simp [upd_app]) (by simp [upd_app]) (boolA_pure _) rfl
    · rw [decide_eq_false c] at h2
      simp only [if_neg c]
      (refine callOk_of_wpc (W := fun g => g == 25) true hm' Tryz.func9 rfl (by kernel_rfl) (Nat.le_of_ble_eq_true rfl) (go_start ?_); generalize hQ : Post Tryz.prog Tryz.f9 _ _ _ _ _ = Q; simp only [stIn, matL, matA, st00])
      simp (disch := omega) only [go_sem, ↓k_cond, ↓x_idx, ↓k_block, Nat.reduceEqDiff, Nat.reduceBEq, ↓reduceIte, reduceCtorEq, h1, h2]
      (repeat (with_reducible refine Or.inr ?_))
      rw [← hQ]
      exact postB_two (.inl rfl) rfl (by simp [upd_app] <;> omega) (by simp [upd_app] <;> omega) rfl rfl
attribute [go_sem] w_letIn
theorem law_BestActs (m : Mdl) (hl : m.lens) (l : Int) : CallOk Tryz.prog 3 [m.av, .int .i64 l] (.bool true) [] := by
  have h1 := l_szModel m 1000000 (by omega) (by omega) hl
  have h2 := l_toModel m
  obtain ⟨z, hz⟩ : ∃ z, szM m 1000000 = z := ⟨_, rfl⟩
  rw [hz] at h1
  by_cases hneg : z < 0
  · (refine callOk_of_wpc (W := fun g => g == 9 || g == 7 || g == 11) false hm' Tryz.func3 rfl (by kernel_rfl) (Nat.le_of_ble_eq_true rfl) (go_start ?_); generalize hQ : Post Tryz.prog Tryz.f3 _ _ _ _ _ = Q; simp only [stIn, matL, matA, st00])
    simp (disch := omega) only [go_sem, ↓k_cond, ↓x_idx, ↓k_block, Nat.reduceEqDiff, Nat.reduceBEq, ↓reduceIte, reduceCtorEq, h1]
    (repeat (with_reducible refine Or.inr ?_))
    rw [← hQ]
    exact post_one (.inl rfl) rfl (by simp [upd_app] <;> omega) rfl
  · have hs : m.small := szM_small (l := 1000000) (by omega) (by rw [hz]; exact hneg)
    have hS := s_BestActs (l := l) hs
    have hI := i_BestActs (l := l) hs
    have hlen : ∀ bs, bestT m l = some bs → bs.length ≤ 8 := fun bs => bestT_len
    generalize bestT m l = o at *
    have heqN := (l_eqB (bs := []) (by simp)).args (SubL.cons sub_nil (SubL.cons sub_nil .nil))
    have hheldN := (l_heldB (n := 0) (k := 101) (by omega)).args (SubL.cons sub_nil (SubL.cons (Sub.refl _) .nil))
    cases o with
    | none =>
      rw [optB] at hI hS
      (refine callOk_of_wpc (W := fun g => g == 9 || g == 7 || g == 11) false hm' Tryz.func3 rfl (by kernel_rfl) (Nat.le_of_ble_eq_true rfl) (go_start ?_); generalize hQ : Post Tryz.prog Tryz.f3 _ _ _ _ _ = Q; simp only [stIn, matL, matA, st00])
      simp (disch := omega) only [go_sem, ↓k_cond, ↓x_idx, ↓k_block, Nat.reduceEqDiff, Nat.reduceBEq, ↓reduceIte, reduceCtorEq, h1, h2]
      (repeat (with_reducible refine Or.inr ?_))
      refine callW_X hS (by kernel_rfl) (snapL_pure rfl) rfl (matA_pure _ _ _ rfl) rfl ?_
      simp (disch := omega) only [go_sem, ↓k_cond, ↓x_idx, ↓k_block, Nat.reduceEqDiff, Nat.reduceBEq, ↓reduceIte, reduceCtorEq, h2]
      (repeat (with_reducible refine Or.inr ?_))
      refine callW_X hI (by kernel_rfl) (snapL_pure rfl) rfl (matA_pure _ _ _ rfl) rfl ?_
      simp (disch := omega) only [go_sem, ↓k_cond, ↓x_idx, ↓k_block, Nat.reduceEqDiff, Nat.reduceBEq, ↓reduceIte, reduceCtorEq]
      refine callW_P heqN (by kernel_rfl) rfl rfl ?_
      simp (disch := omega) only [go_sem, ↓k_cond, ↓x_idx, ↓k_block, Nat.reduceEqDiff, Nat.reduceBEq, ↓reduceIte, reduceCtorEq, w_markNilB]
      (repeat (with_reducible refine Or.inr ?_))
      refine callW_P hheldN (by kernel_rfl) rfl rfl ?_
      simp (disch := omega) only [go_sem, ↓k_cond, ↓x_idx, ↓k_block, Nat.reduceEqDiff, Nat.reduceBEq, ↓reduceIte, reduceCtorEq, h2]
      (repeat (with_reducible refine Or.inr ?_))
      refine callW_X hI (by kernel_rfl) (snapL_pure rfl) rfl (matA_pure _ _ _ rfl) rfl ?_
      simp (disch := omega) only [go_sem, ↓k_cond, ↓x_idx, ↓k_block, Nat.reduceEqDiff, Nat.reduceBEq, ↓reduceIte, reduceCtorEq]
      refine callW_P heqN (by kernel_rfl) rfl rfl ?_
      simp (disch := omega) only [go_sem, ↓k_cond, ↓x_idx, ↓k_block, Nat.reduceEqDiff, Nat.reduceBEq, ↓reduceIte, reduceCtorEq]
      refine callW_P hheldN (by kernel_rfl) rfl rfl ?_
      simp (disch := omega) only [go_sem, ↓k_cond, ↓x_idx, ↓k_block, Nat.reduceEqDiff, Nat.reduceBEq, ↓reduceIte, reduceCtorEq]
      rw [← hQ]
      exact post_one (.inl rfl) rfl (by simp [upd_app] <;> omega) rfl
    | some bs =>
      have htl := hlen bs rfl
      rw [optB] at hI hS
      have heq := l_eqB (bs := bs) (by omega)
      have hheld := l_heldB (n := bs.length) (k := 101) (by omega)
      (refine callOk_of_wpc (W := fun g => g == 9 || g == 7 || g == 11) false hm' Tryz.func3 rfl (by kernel_rfl) (Nat.le_of_ble_eq_true rfl) (go_start ?_); generalize hQ : Post Tryz.prog Tryz.f3 _ _ _ _ _ = Q; simp only [stIn, matL, matA, st00])
      simp (disch := omega) only [go_sem, ↓k_cond, ↓x_idx, ↓k_block, Nat.reduceEqDiff, Nat.reduceBEq, ↓reduceIte, reduceCtorEq, h1, h2]
      (repeat (with_reducible refine Or.inr ?_))
      refine callW_X hS (by kernel_rfl) (snapL_pure rfl) (optB_solid false (some bs)) (matA_ownB (boolA_pure bs) rfl) rfl ?_
      simp only [boolA_len, List.length_nil, Nat.add_zero, List.append_nil]
      simp (disch := omega) only [go_sem, ↓k_cond, ↓x_idx, ↓k_block, Nat.reduceEqDiff, Nat.reduceBEq, ↓reduceIte, reduceCtorEq, h2]
      (repeat (with_reducible refine Or.inr ?_))
      refine callW_X hI (by kernel_rfl) (snapL_pure rfl) (optB_solid false (some bs)) (matA_ownB (boolA_pure bs) rfl) rfl ?_
      simp only [boolA_len, List.length_nil, Nat.add_zero, List.append_nil]
      simp (disch := omega) only [go_sem, ↓k_cond, ↓x_idx, ↓k_block, Nat.reduceEqDiff, Nat.reduceBEq, ↓reduceIte, reduceCtorEq]
      refine callW_S heq (by kernel_rfl) (snapB2 (ex := false) (gr := true) (ex' := false) (gr' := true) (by simp [upd_app]) (by simp [upd_app]) rfl rfl) rfl rfl ?_
      simp (disch := omega) only [go_sem, ↓k_cond, ↓x_idx, ↓k_block, Nat.reduceEqDiff, Nat.reduceBEq, ↓reduceIte, reduceCtorEq]
      refine callW_I (i_markB (k := 101) (xs := bs) (n := bs.length) (ex := false) (gr := true) (by simp [upd_app]) rfl (by omega)) (by kernel_rfl) (.inl rfl) ?_
      simp (disch := omega) only [go_sem, ↓k_cond, ↓x_idx, ↓k_block, Nat.reduceEqDiff, Nat.reduceBEq, ↓reduceIte, reduceCtorEq]
      refine callW_S hheld (by kernel_rfl) (snap_bools (ex := false) (gr := true) (by simp [upd_app]) (marksB_len _ _) rfl) rfl rfl ?_
      simp (disch := omega) only [go_sem, ↓k_cond, ↓x_idx, ↓k_block, Nat.reduceEqDiff, Nat.reduceBEq, ↓reduceIte, reduceCtorEq, h2]
      (repeat (with_reducible refine Or.inr ?_))
      refine callW_X hI (by kernel_rfl) (snapL_pure rfl) (optB_solid false (some bs)) (matA_ownB (boolA_pure bs) rfl) rfl ?_
      simp only [boolA_len, List.length_nil, Nat.add_zero, List.append_nil]
      simp (disch := omega) only [go_sem, ↓k_cond, ↓x_idx, ↓k_block, Nat.reduceEqDiff, Nat.reduceBEq, ↓reduceIte, reduceCtorEq]
      refine callW_S heq (by kernel_rfl) (snapB2 (ex := false) (gr := true) (ex' := false) (gr' := true) (by simp [upd_app]) (by simp [upd_app]) rfl rfl) rfl rfl ?_
      simp (disch := omega) only [go_sem, ↓k_cond, ↓x_idx, ↓k_block, Nat.reduceEqDiff, Nat.reduceBEq, ↓reduceIte, reduceCtorEq]
      refine callW_S hheld (by kernel_rfl) (snap_bools (ex := false) (gr := true) (by simp [upd_app]) (marksB_len _ _) rfl) rfl rfl ?_
      simp (disch := omega) only [go_sem, ↓k_cond, ↓x_idx, ↓k_block, Nat.reduceEqDiff, Nat.reduceBEq, ↓reduceIte, reduceCtorEq]
      rw [← hQ]
      exact post_one (.inl rfl) rfl (by simp [upd_app] <;> omega) rfl
theorem lawOk_BestActs : LawOk Tryz.prog 3 [.st [.int .i64, .str, .str, .str, .str], .cell (.int .i64)] := by
 intro xs h
 obtain ⟨x, _, rfl, hx, y, _, rfl, hy, rfl⟩ := h
 obtain ⟨m, rfl, hm⟩ := isT_M hx
 obtain ⟨l, rfl, _⟩ := hy
 exact law_BestActs m hm l
end Go.Proofs.YtmlbjakkojbdlaaGreatDoor
