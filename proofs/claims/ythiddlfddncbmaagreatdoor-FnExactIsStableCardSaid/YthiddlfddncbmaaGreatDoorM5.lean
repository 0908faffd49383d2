/- Ground 5. -/
import Derived.Lib.ItoaNum
import Derived.Test.YthiddlfddncbmaaGreatDoorM4

set_option linter.unusedVariables false
set_option linter.unusedSimpArgs false
set_option maxRecDepth 100000
namespace Go.Proofs.YthiddlfddncbmaaGreatDoor
open Go

def parseR (s : List UInt8) : Option Rat := (parseQ s).map fun t => mkRat (sg t.1 t.2.1) t.2.2
theorem LK {s : List UInt8} (h : ∀ c ∈ s, isDig c = true) : dval s < 10 ^ s.length := by
 have hl : ∀ (l : List UInt8), (∀ c ∈ l, isDig c = true) → dval l < 10 ^ l.length := by
  intro l
  induction l with
  | nil => intro _; simp [dval]
  | cons c l ih =>
   intro h
   have h1 := CN [c] l
   have h2 : dval [c] = c.toNat - 48 := by simp [dval]
   have h3 := h c zS
   simp only [isDig, Bool.and_eq_true, decide_eq_true_eq] at h3
   have h4 := ih (fun d hd => h d (by simp [hd]))
   simp only [List.singleton_append] at h1
   rw [h1, h2, List.length_cons, Nat.pow_succ]
   have : (c.toNat - 48) * 10 ^ l.length ≤ 9 * 10 ^ l.length := Nat.mul_le_mul_right _ zO
   omega
 exact hl s h
theorem TT {k j n : Nat} (h1 : k ≤ 3 * j) (h2 : 10 * j < n) : 10 ^ k < 2 ^ n := by
 have h3 : 10 ^ k ≤ 10 ^ (3 * j) := Nat.pow_le_pow_right zD h1
 have h4 : (10 ^ 3) ^ j ≤ (2 ^ 10) ^ j := Nat.pow_le_pow_left zD j
 rw [← Nat.pow_mul, ← Nat.pow_mul] at h4
 exact Nat.lt_of_le_of_lt (Nat.le_trans h3 h4) (Nat.pow_lt_pow_right zD h2)
theorem TU {n : Nat} (h : n ≠ 0) : 1 < 2 ^ n := Nat.one_lt_two_pow h
theorem NZ {k : Nat} (h : k ≤ 200) : 10 ^ k < 2 ^ 700 := TT (j := 67) (n := 700) zO zO
theorem LL {s : List UInt8} {b : Bool} {m n : Nat} (h : parseQ s = some (b, m, n)) : n ≠ 0 ∧ (b = true → m ≠ 0) ∧ Nat.gcd m n = 1 ∧ m < 2 ^ 700 ∧ n < 2 ^ 700 := by
 unfold parseQ at h
 split at h
 ·rename_i hc
  obtain ⟨h1, h2⟩ := hc
  obtain ⟨_, hl, hd⟩ := CH h1
  have hm := Nat.lt_trans (LK hd) (NZ hl)
  split at h
  ·simp only [Option.some.injEq, Prod.mk.injEq] at h
   obtain ⟨rfl, rfl, rfl⟩ := h
   exact ⟨zD, fun hb h0 => h2 ⟨hb, h0⟩, Nat.gcd_one_right _, hm, TU (n := 700) zD⟩
  ·split at h
   ·rename_i i _ hc2
    obtain ⟨k1, k2, k3⟩ := hc2
    obtain ⟨_, hl2, hd2⟩ := CH k1
    simp only [Option.some.injEq, Prod.mk.injEq] at h
    obtain ⟨rfl, rfl, rfl⟩ := h
    exact ⟨zO, fun hb h0 => h2 ⟨hb, h0⟩, k3, hm, Nat.lt_trans (LK hd2) (NZ hl2)⟩
   ·cases h
 ·cases h
theorem LM {s : List UInt8} {t : Qd} (h : parseQ s = some t) : ∃ q, parseR s = some q ∧ qd q = t ∧ fits 700 q := by
 obtain ⟨b, m, n⟩ := t
 obtain ⟨h1, h2, h3, h4, h5⟩ := LL h
 have e : qd (mkRat (sg b m) n) = (b, m, n) := by rw [LA b m n h1, h3, Nat.div_one, Nat.div_one]; clear h4 h5 h; cases b <;> simp_all
 refine ⟨_, by simp only [parseR, h, Option.map_some], e, ?_⟩
 have e1 : (mkRat (sg b m) n).num.natAbs = m := congrArg (·.2.1) e
 have e2 : (mkRat (sg b m) n).den = n := congrArg (·.2.2) e
 exact ⟨by rw [e1]; exact h4, by rw [e2]; exact h5⟩
theorem Hu {s : List UInt8} (h : parseQ s = none) : parseR s = none := by simp [parseR, h]
def optI : Option Rat → AV
 | some q => .tup [rI 700 q, .bool true]
 | none => .tup [.agg [.bool false, .nil, .nil], .bool false]
def optS : Option Rat → AV
 | some q => .tup [rS 700 q, .bool true]
 | none => .tup [.agg [.bool false, .nil, .nil], .bool false]
def optLI : Option (List Rat) → AV
 | some q => .tup [lI 700 q, .bool true]
 | none => .tup [.nil, .bool false]
def optLS : Option (List Rat) → AV
 | some q => .tup [lS 700 q, .bool true]
 | none => .tup [.nil, .bool false]
@[simp] theorem Wx (o : Option Rat) : (optI o).pure = true := by cases o <;> simp [optI, AV.pure, AV.pureL]
@[simp] theorem Vj (o : Option (List Rat)) : (optLI o).pure = true := by cases o <;> simp [optLI, AV.pure, AV.pureL]
@[simp] theorem Vk (o : Option (List Rat)) : (optLS o).pure = true := by cases o <;> simp [optLS, AV.pure, AV.pureL]
theorem Q8 (q : Rat) : optI (some q) = .tup [rI 700 q, .bool true] := rfl
theorem Vl : optI none = .tup [.agg [.bool false, .nil, .nil], .bool false] := rfl
theorem Vm (q : Rat) : optS (some q) = .tup [rS 700 q, .bool true] := rfl
theorem Vn : optS none = .tup [.agg [.bool false, .nil, .nil], .bool false] := rfl
theorem Na (q : List Rat) : optLI (some q) = .tup [lI 700 q, .bool true] := rfl
theorem TV : optLI none = .tup [.nil, .bool false] := rfl
theorem Nb (q : List Rat) : optLS (some q) = .tup [lS 700 q, .bool true] := rfl
theorem TW : optLS none = .tup [.nil, .bool false] := rfl
attribute [go_sem] Q8 Vl Vm Vn Na TV Nb TW List.drop_succ_cons
theorem GV {s : List UInt8} (hs : s.length < 9223372036854775808) : CW Tryz.prog 102 [.str s] (optI (parseR s)) := by
 refine cw zK zP zP ?_
 have h := Iy s hs
 unfold readRatV at h
 cases hq : parseQ s with
 | none => rw [hq] at h; rw [Hu hq]; exact h
 | some t =>
  obtain ⟨q, h1, h2, h3⟩ := LM hq
  rw [hq] at h
  rw [h1, Q8, BT h3, h2]; exact h
attribute [go_sem] GV
theorem Nc : ∀ (xs : List (List UInt8)), match xs.mapM parseQ with
  | some ts => ∃ qs, xs.mapM parseR = some qs ∧ qs.map qd = ts ∧ ∀ q ∈ qs, fits 700 q
  | none => xs.mapM parseR = none
 | [] => ⟨[], rfl, rfl, zS⟩
 | x :: xs => by
  have ih := Nc xs
  rw [List.mapM_cons, List.mapM_cons]
  cases hq : parseQ x with
  | none => rw [Hu hq]; rfl
  | some t =>
   obtain ⟨q, h1, h2, h3⟩ := LM hq
   rw [h1]
   cases hxs : xs.mapM parseQ with
   | none => rw [hxs] at ih; simp [hxs, ih]
   | some ts =>
    rw [hxs] at ih
    obtain ⟨qs, g1, g2, g3⟩ := ih
    simp only [Option.bind_eq_bind, Option.bind_some, g1, pure]
    exact ⟨q :: qs, rfl, by simp [h2, g2], by intro y hy; rcases List.mem_cons.1 hy with rfl | hy; exact h3; exact g3 y hy⟩
def listR (xs : List (List UInt8)) : Option (List Rat) := if 300 < xs.length then none else xs.mapM parseR
theorem J1 (xs : List (List UInt8)) : match listQ xs with
  | some ts => ∃ qs, listR xs = some qs ∧ qs.map qd = ts ∧ ∀ q ∈ qs, fits 700 q
  | none => listR xs = none := by
 have h := Nc xs
 unfold listQ listR
 by_cases hl : 300 < xs.length
 ·rw [if_pos hl, if_pos hl]
 ·rw [if_neg hl, if_neg hl]; exact h
theorem GW {xs : List (List UInt8)} {qs : List Rat} (h : listR xs = some qs) : (∀ q ∈ qs, fits 700 q) ∧ qs.length = xs.length ∧ qs.length ≤ 300 := by
 have hl : ¬ 300 < xs.length := by intro hl; rw [listR, if_pos hl] at h; cases h
 have h' := h
 rw [listR, if_neg hl] at h'
 have hlen := Ft h'
 have k := J1 xs
 cases hq : listQ xs with
 | none => rw [hq] at k; rw [k] at h; cases h
 | some ts =>
  rw [hq] at k
  obtain ⟨qs', h1, _, h3⟩ := k
  rw [h1] at h; cases h
  exact ⟨h3, hlen, zO⟩
theorem O0 {qs : List Rat} (h : ∀ q ∈ qs, fits 700 q) : (qs.map qd).map ratI = ratL 700 qs := by
 rw [List.map_map]; exact List.map_congr_left fun q hq => (BT (h q hq)).symm
theorem O1 {qs : List Rat} (h : ∀ q ∈ qs, fits 700 q) : (qs.map qd).map ratS = ratM 700 qs := by
 rw [List.map_map]; exact List.map_congr_left fun q hq => (CO (h q hq)).symm
theorem MY {xs : List (List UInt8)} (hl : xs.length < 9223372036854775808) (hs : ∀ x ∈ xs, x.length < 9223372036854775808) : CW Tryz.prog 68 [.sl 9 (strA xs) [] false] (optLI (listR xs)) := by
 refine cw zK zP zP ?_
 have h := VV xs hl hs
 have k := J1 xs
 unfold listI at h
 cases hq : listQ xs with
 | none => rw [hq] at h k; rw [k]; exact h
 | some ts =>
  rw [hq] at h k
  obtain ⟨qs, h1, h2, h3⟩ := k
  rw [h1, Na]
  simp only [ratsI, ← h2, O0 h3] at h
  exact h
attribute [go_sem] MY
theorem HD {xs : List (List UInt8)} (hl : xs.length < 9223372036854775808) (hs : ∀ x ∈ xs, x.length ≤ 1000000) : CW Tryz.prog 49 [.sl 9 (strA xs) [] false] (optLS (listR xs)) := by
 refine cw zK zP zP ?_
 have h := VW xs hl hs
 have k := J1 xs
 unfold listS at h
 cases hq : listQ xs with
 | none => rw [hq] at h k; rw [k]; exact h
 | some ts =>
  rw [hq] at h k
  obtain ⟨qs, h1, h2, h3⟩ := k
  rw [h1, Nb]
  simp only [ratsS, ← h2, O1 h3] at h
  exact h
attribute [go_sem] HD
def rowsT (rs : List (List (List UInt8))) : List AV := rs.map fun r => .sl 9 (strA r) [] false
theorem AN {rs : List (List (List UInt8))} : (rowsT rs).length = rs.length := by simp [rowsT]
theorem Ei {rs : List (List (List UInt8))} {i : Nat} {r : List (List UInt8)} (h : rs[i]? = some r) : (rowsT rs)[i]? = some (.sl 9 (strA r) [] false) := by simp [rowsT, h]
def textsOk (xs : List (List UInt8)) : Prop := xs.length ≤ 1000000 ∧ ∀ x ∈ xs, x.length ≤ 1000000
theorem BR {rs : List (List (List UInt8))} : AV.pureL (rowsT rs) = true := by
 induction rs with
 | nil => rfl
 | cons r rs ih => simpa [rowsT, AV.pureL, AV.pure, AU] using ih
theorem Vo : elT Tryz.prog 48 = some 47 := by kernel_rfl
theorem Vp : okT Tryz.prog 47 = true := by kernel_rfl
theorem Vq : aggT Tryz.prog 47 = false := by kernel_rfl
theorem TX : (Tryz.prog.info? 47).isSome = true := by kernel_rfl
theorem MZ : szT Tryz.prog 47 = 1 := by kernel_rfl
theorem TY : zokT Tryz.prog 47 = true := by kernel_rfl
theorem Vr : u32T Tryz.prog 47 = false := by kernel_rfl
theorem TZ {t : Nat} {xs sp : List AV} {ex : Bool} : AV.el Tryz.prog 47 (.sl t xs sp ex) = true := by simp [AV.el, MZ, AV.cells, AV.one]
attribute [go_sem] Vo Vp Vq TX MZ TY Vr TZ
theorem Vs : zeroA Tryz.prog 47 = some .nil := by kernel_rfl
theorem Q9 {a b c d : Nat} : AV.el Tryz.prog 47 (.ref a b c d) = true := by simp [AV.el, MZ, AV.cells, AV.one]
attribute [go_sem] Vs Q9
theorem Ta : elT Tryz.prog 39 = some 38 := by kernel_rfl
theorem Tb : okT Tryz.prog 38 = true := by kernel_rfl
theorem Tc : aggT Tryz.prog 38 = false := by kernel_rfl
theorem RA : (Tryz.prog.info? 38).isSome = true := by kernel_rfl
theorem HE : szT Tryz.prog 38 = 1 := by kernel_rfl
theorem RB : zokT Tryz.prog 38 = true := by kernel_rfl
theorem Td : u32T Tryz.prog 38 = false := by kernel_rfl
theorem RC {t : Nat} {xs sp : List AV} {ex : Bool} : AV.el Tryz.prog 38 (.sl t xs sp ex) = true := by simp [AV.el, HE, AV.cells, AV.one]
attribute [go_sem] Ta Tb Tc RA HE RB Td RC
theorem Te : zeroA Tryz.prog 38 = some .nil := by kernel_rfl
theorem O2 : AV.el Tryz.prog 38 .nil = true := by simp [AV.el, HE, AV.cells, AV.one]
theorem O3 {a b c d : Nat} : AV.el Tryz.prog 38 (.ref a b c d) = true := by simp [AV.el, HE, AV.cells, AV.one]
attribute [go_sem] Te O2 O3
theorem Vt : byT Tryz.prog 47 = 24 := by kernel_rfl
theorem Vu : okT Tryz.prog 48 = true := by kernel_rfl
theorem Vv : aggT Tryz.prog 48 = false := by kernel_rfl
theorem Tf : (Tryz.prog.info? 48).isSome = true := by kernel_rfl
theorem RD : szT Tryz.prog 48 = 1 := by kernel_rfl
theorem Tg : zokT Tryz.prog 48 = true := by kernel_rfl
theorem Vw : u32T Tryz.prog 48 = false := by kernel_rfl
theorem Vx : zeroA Tryz.prog 48 = some .nil := by kernel_rfl
attribute [go_sem] Vt Vu Vv Tf RD Tg Vw Vx
theorem Th : okT Tryz.prog 39 = true := by kernel_rfl
theorem Ti : aggT Tryz.prog 39 = false := by kernel_rfl
theorem RE : (Tryz.prog.info? 39).isSome = true := by kernel_rfl
theorem Nd : szT Tryz.prog 39 = 1 := by kernel_rfl
theorem RF : zokT Tryz.prog 39 = true := by kernel_rfl
theorem Tj : u32T Tryz.prog 39 = false := by kernel_rfl
theorem Tk : zeroA Tryz.prog 39 = some .nil := by kernel_rfl
theorem O4 {a b c d : Nat} : AV.el Tryz.prog 39 (.ref a b c d) = true := by simp [AV.el, Nd, AV.cells, AV.one]
attribute [go_sem] Th Ti RE Nd RF Tj Tk O4
theorem Tl : byT Tryz.prog 38 = 24 := by kernel_rfl
attribute [go_sem] Tl
theorem Um : szT Tryz.prog 3 = 1 := by kernel_rfl
theorem Xe : aggT Tryz.prog 3 = false := by kernel_rfl
theorem Vy {n : Int} : AV.el Tryz.prog 3 (.int .i64 n) = true := by simp [AV.el, Um, AV.cells, AV.one]
attribute [go_sem] Um Xe Vy
section
variable {P : Program} {W : FuncId → Bool} {d : Option Tmp} {ops : Array Oper} {os : List Oper} {fr : Nat → AV} {h : Nat → Blk} {nx : Nat} {K : St → Prop} {t : TokC ⟨d, ops, os, fr, h, nx, K⟩} {g : FuncId} {al : List AV}
end
abbrev CWT (P : Program) (g : FuncId) (al : List AV) (T : Nat) (xs sp : List AV) (ex b : Bool) : Prop :=
 ∀ (W : FuncId → Bool) (d : Option Tmp) (ops : Array Oper) (os : List Oper) (fr : Nat → AV) (h : Nat → Blk) (nx : Nat) (K : St → Prop) (t : TokC ⟨d, ops, os, fr, h, nx, K⟩), W g = true →
  callW P W g al ⟨d, ops, os, fr, h, nx, K⟩ t = (Hid (callW P W g al ⟨d, ops, os, fr, h, nx, K⟩ .mk) .mk ∨ wpos P W ops os (St.put ⟨fr, upd h nx ⟨T, xs ++ sp, ex, true, true⟩, nx + 1⟩ d (.tup [.ref nx (xs.length + sp.length) 0 xs.length, .bool b])) K)
theorem O5 {T : Nat} {xs sp : List AV} {ex b : Bool} {fr : Nat → AV} {h : Nat → Blk} {nx : Nat} (hr : AV.pureL xs = true) (hs : AV.pureL sp = true) :
  matA true (.tup [.own T xs sp ex, .bool b]) ⟨fr, h, nx⟩ = (.tup [.ref nx (xs.length + sp.length) 0 xs.length, .bool b], ⟨fr, upd h nx ⟨T, xs ++ sp, ex, true, true⟩, nx + 1⟩) := by
 simp only [matA, matL, Am _ _ _ hr, Am _ _ _ hs, St.new]
theorem Tm : elT Tryz.prog 106 = some 4 := by kernel_rfl
theorem Tn : okT Tryz.prog 106 = true := by kernel_rfl
theorem Vz : (Tryz.prog.info? 4).isSome = true := by kernel_rfl
theorem V0 : byT Tryz.prog 4 = 1 := by kernel_rfl
theorem V1 : zeroA Tryz.prog 4 = some (.bool false) := by kernel_rfl
theorem To : zokT Tryz.prog 4 = true := by kernel_rfl
theorem V2 : u32T Tryz.prog 4 = false := by kernel_rfl
attribute [go_sem] Tm Tn Vz V0 V1 To V2
def boolA (bs : List Bool) : List AV := bs.map .bool
theorem DL {bs : List Bool} : (boolA bs).length = bs.length := by simp [boolA]
theorem Cc {bs : List Bool} {i : Nat} : (boolA bs)[i]? = (bs[i]?).map AV.bool := by simp [boolA]
@[simp] theorem Ma (bs : List Bool) : AV.pureL (boolA bs) = true := by induction bs <;> simp_all [boolA, AV.pureL, AV.pure]
theorem I6 {bs : List Bool} {i : Nat} {b : Bool} : (boolA bs).set i (.bool b) = boolA (bs.set i b) := by simp [boolA, List.map_set]
theorem V3 : okT Tryz.prog 22 = true := by kernel_rfl
theorem V4 : aggT Tryz.prog 22 = false := by kernel_rfl
theorem Tp : (Tryz.prog.info? 22).isSome = true := by kernel_rfl
theorem J5 : szT Tryz.prog 22 = 1 := by kernel_rfl
theorem Tq : zokT Tryz.prog 22 = true := by kernel_rfl
theorem V5 : u32T Tryz.prog 22 = false := by kernel_rfl
theorem V6 : zeroA Tryz.prog 22 = some .nil := by kernel_rfl
theorem V7 : byT Tryz.prog 22 = 24 := by kernel_rfl
theorem Tr {t : Nat} {xs sp : List AV} {ex : Bool} : AV.el Tryz.prog 22 (.sl t xs sp ex) = true := by simp [AV.el, J5, AV.cells, AV.one]
theorem LN  : AV.el Tryz.prog 22 .nil = true := by simp [AV.el, J5, AV.cells, AV.one]
theorem LO {a b c d : Nat} : AV.el Tryz.prog 22 (.ref a b c d) = true := by simp [AV.el, J5, AV.cells, AV.one]
attribute [go_sem] V3 V4 Tp J5 Tq V5 V6 V7 Tr LN LO
theorem Ts : okT Tryz.prog 23 = true := by kernel_rfl
theorem Tt : aggT Tryz.prog 23 = false := by kernel_rfl
theorem RG : (Tryz.prog.info? 23).isSome = true := by kernel_rfl
theorem J6 : szT Tryz.prog 23 = 1 := by kernel_rfl
theorem RH : zokT Tryz.prog 23 = true := by kernel_rfl
theorem Tu : u32T Tryz.prog 23 = false := by kernel_rfl
theorem Tv : zeroA Tryz.prog 23 = some .nil := by kernel_rfl
theorem Tw : byT Tryz.prog 23 = 24 := by kernel_rfl
theorem I7  : AV.el Tryz.prog 23 .nil = true := by simp [AV.el, J6, AV.cells, AV.one]
theorem I8 {a b c d : Nat} : AV.el Tryz.prog 23 (.ref a b c d) = true := by simp [AV.el, J6, AV.cells, AV.one]
attribute [go_sem] Ts Tt RG J6 RH Tu Tv Tw I7 I8
theorem Tx : elT Tryz.prog 23 = some 22 := by kernel_rfl
attribute [go_sem] Tx
theorem O6 {a b c d : Nat} : AV.el Tryz.prog 48 (.ref a b c d) = true := by simp [AV.el, RD, AV.cells, AV.one]
attribute [go_sem] O6
theorem YN : okT Tryz.prog 25 = true := by kernel_rfl
theorem YO : aggT Tryz.prog 25 = true := by kernel_rfl
theorem Xf : szT Tryz.prog 25 = 3 := by kernel_rfl
theorem YP : zeroA Tryz.prog 25 = some (.agg [.nil, .nil, .nil]) := by kernel_rfl
theorem Xg : infosT Tryz.prog 25 = true := by kernel_rfl
theorem Xh : fieldOff Tryz.prog 25 0 = some (0, 22) := by kernel_rfl
theorem Xi : fieldOff Tryz.prog 25 1 = some (1, 22) := by kernel_rfl
theorem Xj : fieldOff Tryz.prog 25 2 = some (2, 23) := by kernel_rfl
theorem Xk {a0 a1 a2 : AV} : AV.el Tryz.prog 25 (.agg [a0, a1, a2]) = (a0.one && (a1.one && (a2.one))) := by simp [AV.el, Xf, AV.cells]
attribute [go_sem] YN YO Xf YP Xg Xh Xi Xj Xk
theorem Xl : okT Tryz.prog 28 = true := by kernel_rfl
theorem Xm : aggT Tryz.prog 28 = true := by kernel_rfl
theorem V8 : szT Tryz.prog 28 = 3 := by kernel_rfl
theorem YQ : zeroA Tryz.prog 28 = some (.agg [.nil, .nil, .nil]) := by kernel_rfl
theorem Xn : infosT Tryz.prog 28 = true := by kernel_rfl
theorem Xo : fieldOff Tryz.prog 28 0 = some (0, 22) := by kernel_rfl
theorem Xp : fieldOff Tryz.prog 28 1 = some (1, 22) := by kernel_rfl
theorem Xq : fieldOff Tryz.prog 28 2 = some (2, 23) := by kernel_rfl
theorem Xr {a0 a1 a2 : AV} : AV.el Tryz.prog 28 (.agg [a0, a1, a2]) = (a0.one && (a1.one && (a2.one))) := by simp [AV.el, V8, AV.cells]
theorem Xs {a0 a1 a2 : AV} : ldA Tryz.prog 28 (.agg [a0, a1, a2]) 0 = some (.agg [a0, a1, a2]) := by simp [ldA, partA, Xm, V8, AV.cells]
attribute [go_sem] Xl Xm V8 YQ Xn Xo Xp Xq Xr
theorem EQ : okT Tryz.prog 50 = true := by kernel_rfl
theorem Xt : aggT Tryz.prog 50 = true := by kernel_rfl
theorem V9 : szT Tryz.prog 50 = 3 := by kernel_rfl
theorem YR : zeroA Tryz.prog 50 = some (.agg [.nil, .nil, .nil]) := by kernel_rfl
theorem Xu : infosT Tryz.prog 50 = true := by kernel_rfl
theorem Xv : fieldOff Tryz.prog 50 0 = some (0, 47) := by kernel_rfl
theorem Xw : fieldOff Tryz.prog 50 1 = some (1, 47) := by kernel_rfl
theorem Xx : fieldOff Tryz.prog 50 2 = some (2, 48) := by kernel_rfl
theorem Xy {a0 a1 a2 : AV} : AV.el Tryz.prog 50 (.agg [a0, a1, a2]) = (a0.one && (a1.one && (a2.one))) := by simp [AV.el, V9, AV.cells]
theorem C6 {a0 a1 a2 : AV} : ldA Tryz.prog 50 (.agg [a0, a1, a2]) 0 = some (.agg [a0, a1, a2]) := by simp [ldA, partA, Xt, V9, AV.cells]
attribute [go_sem] EQ Xt V9 YR Xu Xv Xw Xx Xy
theorem EK : okT Tryz.prog 41 = true := by kernel_rfl
theorem Xz : aggT Tryz.prog 41 = true := by kernel_rfl
theorem WA : szT Tryz.prog 41 = 3 := by kernel_rfl
theorem YS : zeroA Tryz.prog 41 = some (.agg [.nil, .nil, .nil]) := by kernel_rfl
theorem X0 : infosT Tryz.prog 41 = true := by kernel_rfl
theorem X1 : fieldOff Tryz.prog 41 0 = some (0, 38) := by kernel_rfl
theorem X2 : fieldOff Tryz.prog 41 1 = some (1, 38) := by kernel_rfl
theorem X3 : fieldOff Tryz.prog 41 2 = some (2, 39) := by kernel_rfl
theorem X4 {a0 a1 a2 : AV} : AV.el Tryz.prog 41 (.agg [a0, a1, a2]) = (a0.one && (a1.one && (a2.one))) := by simp [AV.el, WA, AV.cells]
theorem Ce {a0 a1 a2 : AV} : ldA Tryz.prog 41 (.agg [a0, a1, a2]) 0 = some (.agg [a0, a1, a2]) := by simp [ldA, partA, Xz, WA, AV.cells]
attribute [go_sem] EK Xz WA YS X0 X1 X2 X3 X4
abbrev Txs := List (List UInt8)
abbrev Row := Txs × Txs
def rowNil (b : Bool) (p : Row) : Prop := b = true ∧ p.1 = []
instance (b : Bool) (p : Row) : Decidable (rowNil b p) := by unfold rowNil; infer_instance
def ownP (b : Bool) (p : Row) : AV := if rowNil b p then .nil else .own 9 (strA p.1) (strA p.2) true
def snpP (b : Bool) (p : Row) : AV := if rowNil b p then .nil else .sl 9 (strA p.1) [] false
def rowBlk (p : Row) : Blk := ⟨9, strA (p.1 ++ p.2), true, true, true⟩
def RowsN (h : Nat → Blk) (b : Bool) (hi : Nat) : Nat → List Row → List AV → Prop
 | _, [], [] => True
 | lo, p :: ps, e :: es => if rowNil b p then e = .nil ∧ RowsN h b hi lo ps es else ∃ id, lo ≤ id ∧ id < hi ∧ e = .ref id (p.1.length + p.2.length) 0 p.1.length ∧ h id = rowBlk p ∧ RowsN h b hi (id + 1) ps es
 | _, _, _ => False
section
variable {h h' : Nat → Blk} {b : Bool} {hi hi' : Nat}
theorem RowsN.len : ∀ {lo : Nat} {ps : List Row} {es : List AV}, RowsN h b hi lo ps es → es.length = ps.length
 | _, [], [], _ => rfl
 | lo, p :: ps, e :: es, H => by
  unfold RowsN at H
  split at H
  ·simp [RowsN.len H.2]
  ·obtain ⟨id, _, _, _, _, H⟩ := H; simp [RowsN.len H]
 | _, [], _ :: _, H => H.elim
 | _, _ :: _, [], H => H.elim
theorem RowsN.keep (h2 : hi ≤ hi') : ∀ {lo : Nat} {ps : List Row} {es : List AV}, (∀ i, lo ≤ i → i < hi → h' i = h i) → RowsN h b hi lo ps es → RowsN h' b hi' lo ps es
 | _, [], [], _, _ => trivial
 | lo, p :: ps, e :: es, h1, H => by
  unfold RowsN at H ⊢
  split at H
  ·rename_i hn; rw [if_pos hn]; exact ⟨H.1, RowsN.keep h2 h1 H.2⟩
  ·rename_i hn; rw [if_neg hn]
   obtain ⟨id, k1, k2, k3, k4, H⟩ := H
   exact ⟨id, k1, zO, k3, by rw [h1 id k1 k2, k4], RowsN.keep h2 (fun i a c => h1 i zO c) H⟩
 | _, [], _ :: _, _, H => H.elim
 | _, _ :: _, [], _, H => H.elim
theorem RowsN.snoc {p : Row} {id : Nat} (hn : ¬ rowNil b p) (h2 : hi ≤ id) (h3 : id < hi') (hb : h' id = rowBlk p) : ∀ {lo : Nat} {ps : List Row} {es : List AV}, lo ≤ hi → (∀ i, lo ≤ i → i < hi → h' i = h i) → RowsN h b hi lo ps es →
  RowsN h' b hi' lo (ps ++ [p]) (es ++ [.ref id (p.1.length + p.2.length) 0 p.1.length])
 | lo, [], [], hl, _, _ => by
  show RowsN h' b hi' lo (p :: []) (_ :: [])
  unfold RowsN; rw [if_neg hn]; exact ⟨id, zO, h3, rfl, hb, trivial⟩
 | lo, q :: ps, e :: es, hl, h1, H => by
  show RowsN h' b hi' lo (q :: (ps ++ [p])) (e :: (es ++ _))
  unfold RowsN at H ⊢
  split at H
  ·rename_i hq; rw [if_pos hq]; exact ⟨H.1, RowsN.snoc hn h2 h3 hb hl h1 H.2⟩
  ·rename_i hq; rw [if_neg hq]
   obtain ⟨k, k1, k2, k3, k4, H⟩ := H
   exact ⟨k, k1, zO, k3, by rw [h1 k k1 k2, k4], RowsN.snoc hn h2 h3 hb zO (fun i a c => h1 i zO c) H⟩
 | _, [], _ :: _, _, _, H => H.elim
 | _, _ :: _, [], _, _, H => H.elim
theorem RowsN.snocN {p : Row} (hn : rowNil b p) : ∀ {lo : Nat} {ps : List Row} {es : List AV}, RowsN h b hi lo ps es → RowsN h b hi lo (ps ++ [p]) (es ++ [.nil])
 | lo, [], [], _ => by
  show RowsN h b hi lo (p :: []) (_ :: [])
  unfold RowsN; rw [if_pos hn]; exact ⟨rfl, trivial⟩
 | lo, q :: ps, e :: es, H => by
  show RowsN h b hi lo (q :: (ps ++ [p])) (e :: (es ++ _))
  unfold RowsN at H ⊢
  split at H
  ·rename_i hq; rw [if_pos hq]; exact ⟨H.1, RowsN.snocN hn H.2⟩
  ·rename_i hq; rw [if_neg hq]
   obtain ⟨k, k1, k2, k3, k4, H⟩ := H
   exact ⟨k, k1, k2, k3, k4, RowsN.snocN hn H⟩
 | _, [], _ :: _, H => H.elim
 | _, _ :: _, [], H => H.elim
theorem RowsN.at_ : ∀ {lo : Nat} {ps : List Row} {es : List AV} {i : Nat} {p : Row}, RowsN h b hi lo ps es → ps[i]? = some p → ¬ rowNil b p → ∃ id, lo ≤ id ∧ id < hi ∧ es[i]? = some (.ref id (p.1.length + p.2.length) 0 p.1.length) ∧ h id = rowBlk p
 | lo, q :: ps, e :: es, 0, p, H, hp, hn => by
  simp only [List.getElem?_cons_zero, Option.some.injEq] at hp
  subst hp
  unfold RowsN at H
  rw [if_neg hn] at H
  obtain ⟨id, k1, k2, k3, k4, _⟩ := H
  exact ⟨id, k1, k2, by simp [k3], k4⟩
 | lo, q :: ps, e :: es, i + 1, p, H, hp, hn => by
  simp only [List.getElem?_cons_succ] at hp ⊢
  unfold RowsN at H
  split at H
  ·exact RowsN.at_ H.2 hp hn
  ·obtain ⟨id, k1, _, _, _, H⟩ := H
   obtain ⟨k, a, c⟩ := RowsN.at_ H hp hn
   exact ⟨k, zO, c⟩
 | _, [], [], _, _, _, hp, _ => by simp at hp
 | _, [], _ :: _, _, _, H, _, _ => H.elim
 | _, _ :: _, [], _, _, H, _, _ => H.elim
theorem RowsN.snap {st : St} {d : Nat} : ∀ {lo : Nat} {ps : List Row} {es : List AV}, RowsN st.h b hi lo ps es → ∃ ids, snapL (snapA st (d + 1)) es = some (ps.map (snpP b), ids)
 | _, [], [], _ => ⟨[], rfl⟩
 | lo, p :: ps, e :: es, H => by
  unfold RowsN at H
  split at H
  ·rename_i hn
   obtain ⟨ids, hi⟩ := RowsN.snap (st := st) (d := d) H.2
   refine ⟨ids, ?_⟩
   rw [H.1]
   have : snapA st (d + 1) .nil = some (.nil, []) := AL rfl
   simp [snapL, this, hi, snpP, hn]
  ·rename_i hn
   obtain ⟨id, k1, k2, k3, k4, H⟩ := H
   obtain ⟨ids, hi⟩ := RowsN.snap (st := st) (d := d) H
   rw [rowBlk] at k4
   have h1 : snapA st (d + 1) (.ref id (p.1.length + p.2.length) 0 p.1.length) = some (.sl 9 (strA p.1) [] false, [id]) :=
    Av (by rw [k4]) (by rw [k4, AE, List.length_append]) (by rw [k4]) zO (by rw [k4, List.drop_zero, Dy, List.take_left' rfl]) (AU _)
   exact ⟨id :: ids, by rw [k3]; simp [snapL, h1, hi, snpP, hn]⟩
 | _, [], _ :: _, H => H.elim
 | _, _ :: _, [], H => H.elim
theorem RowsN.own {st : St} {d : Nat} : ∀ {lo : Nat} {ps : List Row} {es : List AV}, RowsN st.h b hi lo ps es → ∃ ids, snapL (ownA st (d + 1)) es = some (ps.map (ownP b), ids) ∧ ids.Nodup ∧ ∀ i ∈ ids, lo ≤ i ∧ i < hi
 | _, [], [], _ => ⟨[], rfl, zS, zS⟩
 | lo, p :: ps, e :: es, H => by
  unfold RowsN at H
  split at H
  ·rename_i hn
   obtain ⟨ids, hi, h2, h3⟩ := RowsN.own (st := st) (d := d) H.2
   refine ⟨ids, ?_, h2, h3⟩
   rw [H.1]
   have : ownA st (d + 1) .nil = some (.nil, []) := Ew rfl
   simp [snapL, this, hi, ownP, hn]
  ·rename_i hn
   obtain ⟨id, k1, k2, k3, k4, H⟩ := H
   obtain ⟨ids, hi, h2, h3⟩ := RowsN.own (st := st) (d := d) H
   rw [rowBlk] at k4
   have h1 : ownA st (d + 1) (.ref id (p.1.length + p.2.length) 0 p.1.length) = some (.own 9 (strA p.1) (strA p.2) true, [id]) := by
    rw [C2, if_pos ⟨by rw [k4], by rw [k4, AE, List.length_append], rfl, zO, by rw [k4]⟩, k4]
    simp only [if_true]
    rw [Dy, GQ, List.take_left' rfl, List.drop_left' rfl, BG (AU _), BG (AU _)]
    simp
   refine ⟨id :: ids, by rw [k3]; simp [snapL, h1, hi, ownP, hn], List.nodup_cons.2 ⟨fun hm => by have := (h3 _ hm).1; omega, h2⟩, fun i hi => ?_⟩
   rcases List.mem_cons.1 hi with rfl | hi
   ·exact ⟨k1, k2⟩
   ·have := h3 i hi; omega
 | _, [], _ :: _, H => H.elim
 | _, _ :: _, [], H => H.elim
theorem Ej : ∀ (ps : List Row) (st : St), ∃ es st', matL true (ps.map (ownP b)) st = (es, st') ∧ st'.fr = st.fr ∧ st.nx ≤ st'.nx ∧ (∀ i, i < st.nx → st'.h i = st.h i) ∧ RowsN st'.h b st'.nx st.nx ps es
 | [], st => ⟨[], st, rfl, rfl, Nat.le_refl _, fun _ _ => rfl, trivial⟩
 | p :: ps, st => by
  by_cases hn : rowNil b p
  ·obtain ⟨es, st', h1, h2, h3, h4, h5⟩ := Ej ps st
   refine ⟨.nil :: es, st', ?_, h2, h3, h4, ?_⟩
   ·rw [List.map_cons, ownP, if_pos hn, matL]; simp only [matA]; rw [h1]
   ·unfold RowsN; rw [if_pos hn]; exact ⟨rfl, h5⟩
  ·obtain ⟨es, st', h1, h2, h3, h4, h5⟩ := Ej ps (st.new (rowBlk p))
   have hnx : (st.new (rowBlk p)).nx = st.nx + 1 := rfl
   refine ⟨.ref st.nx (p.1.length + p.2.length) 0 p.1.length :: es, st', ?_, h2, zO, fun i hi => ?_, ?_⟩
   ·rw [List.map_cons, ownP, if_neg hn, matL]
    simp only [matA, Am _ _ _ (AU _), AE]
    rw [Ec, show (⟨9, strA (p.1 ++ p.2), true, true, true⟩ : Blk) = rowBlk p from rfl, h1]
   ·rw [h4 i zO]; simp [St.new, upd]; omega
   ·unfold RowsN; rw [if_neg hn]
    refine ⟨st.nx, Nat.le_refl _, zO, rfl, ?_, h5⟩
    rw [h4 _ zO]; simp [St.new, upd]
end
section
variable {P : Program} {W : FuncId → Bool} {d : Option Tmp} {ops : Array Oper} {os : List Oper} {fr : Nat → AV} {h : Nat → Blk} {nx : Nat} {K : St → Prop} {t : TokC ⟨d, ops, os, fr, h, nx, K⟩} {g : FuncId} {al : List AV}
theorem CallOk.inOkM {sargs : List AV} {r x : AV} {h' : Nat → Blk} {nx' : Nat} (hc : CallOk P g sargs r []) (hp : AV.pureL sargs = true) (hm : matA true r ⟨fr, h, nx⟩ = (x, ⟨fr, h', nx'⟩)) : InOk P ⟨fr, h, nx⟩ g sargs x ⟨fr, h', nx'⟩ := by
 have he : eatH (outH h [] []) [] = h := by funext i; simp [eatH, outH]
 have : CallStep P ⟨fr, h, nx⟩ g sargs x ⟨fr, h', nx'⟩ :=
  ⟨sargs.map fun _ => .snap, sargs, [], [], [], r, [], Ck hp, hc, zS, zS, .inl rfl, .inl rfl, by rw [he]; exact hm.symm⟩
 exact this.inOk
theorem Tz {r x : AV} {h' : Nat → Blk} {nx' : Nat} (hc : CallOk P g al r []) (hg : callable P g = true) (hp : AV.pureL al = true) (hW : W g = true) (hm : matA true r ⟨fr, h, nx⟩ = (x, ⟨fr, h', nx'⟩)) (hk : wpos P W ops os (St.put ⟨fr, h', nx'⟩ d x) K) : callW P W g al ⟨d, ops, os, fr, h, nx, K⟩ t :=
 Aj (hc.inOkM hp hm) hg (.inl hW) hk (.inl hW)
end
def spareRow : AV := .sl 9 (strA [spareT]) [] true
def rowsP (rs : List Txs) : List Row := rs.map fun x => (x, spareL x.length)
theorem Cr {rs : List Txs} : (rowsP rs).length = rs.length := by simp [rowsP]
theorem Hv {rs : List Txs} {i : Nat} {x : Txs} (h : rs[i]? = some x) : (rowsP rs)[i]? = some (x, spareL x.length) := by simp [rowsP, h]
theorem Hw {rs : List Txs} {i : Nat} {x : Txs} (h : rs[i]? = some x) : (rowsP rs).take (i + 1) = (rowsP rs).take i ++ [(x, spareL x.length)] := by rw [List.take_add_one, Hv h]; rfl
theorem Fw {α : Type} {a : List α} {k n : Nat} {z v : α} (hn : a.length = n) (hk : 0 < k) : (a ++ List.replicate k z).set n v = (a ++ [v]) ++ List.replicate (k - 1) z := by
 obtain ⟨q, rfl⟩ : ∃ q, k = q + 1 := ⟨k - 1, zO⟩
 rw [← hn]; exact Fv
theorem Bp {k : Nat} : AV.pureL (List.replicate k spareRow) = true := by
 induction k with
 | zero => rfl
 | succ k ih => rw [List.replicate_succ, AV.pureL, ih]; rfl
set_option maxHeartbeats 4000000 in
theorem WB (rs : List Txs) (b : Bool) (hb : b = false ∨ rs ≠ []) (hn : rs.length ≤ 1000000) (hr : ∀ r ∈ rs, r.length ≤ 1000000) :
  CallOk Tryz.prog 26 [.sl 22 (rowsT rs) [] false, .bool b] (.own 22 ((rowsP rs).map (ownP b)) (List.replicate (roomB rs.length) spareRow) true) [] := by
 obtain ⟨n, hn'⟩ : ∃ n, rs.length = n := ⟨_, rfl⟩
 rw [hn'] at hn ⊢
 obtain ⟨r, hrm⟩ : ∃ r, roomB n = r := ⟨_, rfl⟩
 have hrl := G9 n
 rw [hrm] at hrl ⊢
 have hroom := cw zK zP zP (Jo n zO)
 rw [hrm] at hroom
 have hne : b = true → ¬ n = 0 := fun h h0 => by rcases hb with h' | h'; rw [h] at h'; cases h'; exact h' (List.length_eq_zero_iff.1 zO)
 have hb0 : (((n + r : Nat) : Int) * 24) ≤ 140737488355328 := by omega
 have hb1 : (n + r) * 24 ≤ 140737488355328 := by omega
 (refine AB (W := fun g => g == 25) true AS Tryz.func26 rfl zK zL (AC ?_); generalize hQ : Post Tryz.prog Tryz.f26 _ _ _ _ _ = Q; simp only [stIn, matL, matA, st00])
 cases b with
 | false =>
  simp (disch := omega) only [go_sem, AN, hn', hroom, List.length_replicate, reach, hb0, hb1]
  (repeat (with_reducible refine Or.inr ?_))
  refine AM (fun (⟨i, es⟩ : Nat × List AV) st => st.fr 0 = .sl 22 (rowsT rs) [] false ∧ st.fr 1 = .bool false ∧ st.fr 5 = .ref 0 (n + r) 0 (n + r) ∧ st.fr 6 = .int .i64 i ∧ st.h 0 = ⟨22, es ++ List.replicate (n + r - i) .nil, true, true, true⟩ ∧ RowsN st.h false st.nx 1 ((rowsP rs).take i) es ∧ 1 ≤ st.nx ∧ i ≤ n) (fun (⟨i, _⟩ : Nat × List AV) => n - i) (0, [])
   ⟨zV, zV, zV, zV, zU, trivial, zS, zO⟩ ?_
  rintro ⟨i, es⟩ ⟨fr1, h1, nx1⟩ ⟨g0, g1, g5, g6, hm, HR, hnx, hi⟩ J hJ
  simp only at g0 g1 g5 g6 hm HR hnx hi
  have hel : es.length = i := by rw [HR.len, List.length_take, Cr, hn']; omega
  by_cases hin : i < n
  ·have keyJ := fun es' => hJ (i + 1, es')
   clear hJ
   obtain ⟨x, hx⟩ := AI (xs := rs) (i := i) zO
   have hxl := hr x (List.mem_of_getElem? hx)
   have rtx := Ei hx
   have htk := Hw hx
   have hlen : (es ++ List.replicate (n + r - i) AV.nil).length = n + r := by simp [hel]; omega
   have hset : ∀ v : AV, (es ++ List.replicate (n + r - i) AV.nil).set i v = (es ++ [v]) ++ List.replicate (n + r - (i + 1)) AV.nil := fun v => by rw [Fw hel zO]; rfl
   have hget : (es ++ List.replicate (n + r - i) AV.nil)[i]? = some .nil := by rw [List.getElem?_append_right zO, hel, Nat.sub_self, List.getElem?_replicate, if_pos zO]
   have n1 : (0 = nx1) = False := by simp; omega
   have n2 : (nx1 = 0) = False := by simp; omega
   simp (disch := omega) only [go_sem, g0, g1, g5, g6, rtx, AN, hn']
   have hT := VY x false (.inl rfl) hxl
   have hnn : ¬ rowNil false (x, spareL x.length) := fun h => by cases h.1
   refine Js hT Qj zP (AU _) (AU _) rfl ?_
   simp only [AE, Ec]
   simp (disch := omega) only [go_sem, g0, g1, g5, g6, hm, hlen, hset, hget, n1, n2]
   exact keyJ (es ++ [.ref nx1 (x.length + (spareL x.length).length) 0 x.length]) _ ⟨(by simp [AA, g0] <;> omega), (by simp [AA, g1] <;> omega), (by simp [AA, g5] <;> omega), zV, by simp (disch := omega) only [AA, ↓reduceIte, if_neg, if_pos], by
    rw [htk]
    exact HR.snoc (p := (x, spareL x.length)) (id := nx1) hnn (Nat.le_refl _) zT (by simp (disch := omega) only [AA, ↓reduceIte, if_neg, if_pos]; rfl) hnx (fun k hk1 hk2 => by simp (disch := omega) only [AA, if_neg]), zT, hin⟩ zT
  ·obtain rfl : i = n := by omega
   rw [show i + r - i = r by omega] at hm
   rw [List.take_of_length_le (by rw [Cr]; omega)] at HR
   clear hJ
   simp (disch := omega) only [go_sem, g0, g1, g5, g6, AN, hn']
   refine AM (fun (j : Nat) st => st.fr 0 = .sl 22 (rowsT rs) [] false ∧ st.fr 5 = .ref 0 (i + r) 0 (i + r) ∧ st.fr 7 = .int .i64 ((i + j : Nat) : Int) ∧ st.h 0 = ⟨22, (es ++ List.replicate j spareRow) ++ List.replicate (r - j) .nil, true, true, true⟩ ∧ (∀ k, k ≠ 0 → st.h k = h1 k) ∧ j ≤ r) (fun j => r - j) 0
    ⟨(by simp [AA, g0] <;> omega), (by simp [AA, g5] <;> omega), zV, by simpa using hm, fun k hk => rfl, zO⟩ ?_
   rintro j ⟨fr2, h2, nx2⟩ ⟨s0, s5, s7, hm2, hold2, hj⟩ J2 hJ2
   simp only at s0 s5 s7 hm2 hold2
   have hlen2 : ((es ++ List.replicate j spareRow) ++ List.replicate (r - j) AV.nil).length = i + r := by simp [hel]; omega
   by_cases hjr : j < r
   ·have hl3 : (es ++ List.replicate j spareRow).length = i + j := by simp [hel]
    have hset2 : ((es ++ List.replicate j spareRow) ++ List.replicate (r - j) AV.nil).set (i + j) (.sl 9 [.str [126, 115, 112, 97, 114, 101, 126]] [] true) = (es ++ List.replicate (j + 1) spareRow) ++ List.replicate (r - (j + 1)) AV.nil := by
     rw [Fw hl3 zO, List.replicate_succ', List.append_assoc es]; rfl
    have hget2 : ((es ++ List.replicate j spareRow) ++ List.replicate (r - j) AV.nil)[i + j]? = some .nil := by rw [List.getElem?_append_right zO, hl3, Nat.sub_self, List.getElem?_replicate, if_pos zO]
    simp (disch := omega) only [go_sem, s0, s5, s7, hm2, hlen2, hset2, hget2]
    exact hJ2 (j + 1) _ ⟨(by simp [AA, s0] <;> omega), (by simp [AA, s5] <;> omega), (by simp [AA, s7] <;> omega), zU, fun k hk => by simp only [AA, if_neg hk, hold2 k hk], hjr⟩ zO
   ·obtain rfl : j = r := by omega
    rw [Nat.sub_self, List.replicate_zero, List.append_nil] at hm2 hlen2
    simp (disch := omega) only [go_sem, s0, s5, s7, hm2, hlen2, AN, hn']
    rw [← hQ]
    have HR2 := HR.keep (h' := h2) (hi' := nx1) (Nat.le_refl _) (fun k hk _ => hold2 k zO)
    obtain ⟨ids, q1, q2, q3⟩ := RowsN.own (st := (⟨_, h2, nx2⟩ : St)) (d := 6) HR2
    refine ⟨trivial, .ref 0 (i + j) 0 i, by simp [resV, resL, resA, AA], 0 :: (ids ++ []), ?_, .inl rfl⟩
    simp only [if_true]
    refine ⟨?_, ?_⟩
    ·rw [C2, if_pos ⟨by simp only; rw [hm2], by simp only; rw [hm2]; exact hlen2, rfl, zO, by simp only; rw [hm2]⟩]
     simp only [hm2, if_true]
     rw [List.take_left' hel, List.drop_left' hel, q1, BG Bp]
     simp
    ·rw [List.append_nil]
     exact List.nodup_cons.2 ⟨fun hm => by have := (q3 _ hm).1; omega, q2⟩
 | true =>
  have hn0 := hne rfl
  simp (disch := omega) only [go_sem, AN, hn', hroom, List.length_replicate, reach, hb0, hb1]
  (repeat (with_reducible refine Or.inr ?_))
  refine AM (fun (⟨i, es⟩ : Nat × List AV) st => st.fr 0 = .sl 22 (rowsT rs) [] false ∧ st.fr 1 = .bool true ∧ st.fr 5 = .ref 0 (n + r) 0 (n + r) ∧ st.fr 6 = .int .i64 i ∧ st.h 0 = ⟨22, es ++ List.replicate (n + r - i) .nil, true, true, true⟩ ∧ RowsN st.h true st.nx 1 ((rowsP rs).take i) es ∧ 1 ≤ st.nx ∧ i ≤ n) (fun (⟨i, _⟩ : Nat × List AV) => n - i) (0, [])
   ⟨zV, zV, zV, zV, zU, trivial, zS, zO⟩ ?_
  rintro ⟨i, es⟩ ⟨fr1, h1, nx1⟩ ⟨g0, g1, g5, g6, hm, HR, hnx, hi⟩ J hJ
  simp only at g0 g1 g5 g6 hm HR hnx hi
  have hel : es.length = i := by rw [HR.len, List.length_take, Cr, hn']; omega
  by_cases hin : i < n
  ·have keyJ := fun es' => hJ (i + 1, es')
   clear hJ
   obtain ⟨x, hx⟩ := AI (xs := rs) (i := i) zO
   have hxl := hr x (List.mem_of_getElem? hx)
   have rtx := Ei hx
   have htk := Hw hx
   have hlen : (es ++ List.replicate (n + r - i) AV.nil).length = n + r := by simp [hel]; omega
   have hset : ∀ v : AV, (es ++ List.replicate (n + r - i) AV.nil).set i v = (es ++ [v]) ++ List.replicate (n + r - (i + 1)) AV.nil := fun v => by rw [Fw hel zO]; rfl
   have hget : (es ++ List.replicate (n + r - i) AV.nil)[i]? = some .nil := by rw [List.getElem?_append_right zO, hel, Nat.sub_self, List.getElem?_replicate, if_pos zO]
   have n1 : (0 = nx1) = False := by simp; omega
   have n2 : (nx1 = 0) = False := by simp; omega
   simp (disch := omega) only [go_sem, g0, g1, g5, g6, rtx, AN, hn']
   by_cases hxe : x = []
   ·subst hxe
    refine TA NK Qj zP rfl ?_
    simp (disch := omega) only [go_sem, g0, g1, g5, g6, hm, hlen, hset, hget]
    exact keyJ (es ++ [.nil]) _ ⟨(by simp [AA, g0] <;> omega), (by simp [AA, g1] <;> omega), (by simp [AA, g5] <;> omega), zV, zU, by
     rw [htk]
     exact RowsN.snocN ⟨rfl, rfl⟩ (HR.keep (Nat.le_refl _) (fun k hk1 hk2 => by simp (disch := omega) only [AA, if_neg])), hnx, hin⟩ zT
   ·have hT := VY x true (.inr hxe) hxl
    have hnn : ¬ rowNil true (x, spareL x.length) := fun h => hxe h.2
    refine Js hT Qj zP (AU _) (AU _) rfl ?_
    simp only [AE, Ec]
    simp (disch := omega) only [go_sem, g0, g1, g5, g6, hm, hlen, hset, hget, n1, n2]
    exact keyJ (es ++ [.ref nx1 (x.length + (spareL x.length).length) 0 x.length]) _ ⟨(by simp [AA, g0] <;> omega), (by simp [AA, g1] <;> omega), (by simp [AA, g5] <;> omega), zV, by simp (disch := omega) only [AA, ↓reduceIte, if_neg, if_pos], by
     rw [htk]
     exact HR.snoc (p := (x, spareL x.length)) (id := nx1) hnn (Nat.le_refl _) zT (by simp (disch := omega) only [AA, ↓reduceIte, if_neg, if_pos]; rfl) hnx (fun k hk1 hk2 => by simp (disch := omega) only [AA, if_neg]), zT, hin⟩ zT
  ·obtain rfl : i = n := by omega
   rw [show i + r - i = r by omega] at hm
   rw [List.take_of_length_le (by rw [Cr]; omega)] at HR
   clear hJ
   simp (disch := omega) only [go_sem, g0, g1, g5, g6, AN, hn']
   refine AM (fun (j : Nat) st => st.fr 0 = .sl 22 (rowsT rs) [] false ∧ st.fr 5 = .ref 0 (i + r) 0 (i + r) ∧ st.fr 7 = .int .i64 ((i + j : Nat) : Int) ∧ st.h 0 = ⟨22, (es ++ List.replicate j spareRow) ++ List.replicate (r - j) .nil, true, true, true⟩ ∧ (∀ k, k ≠ 0 → st.h k = h1 k) ∧ j ≤ r) (fun j => r - j) 0
    ⟨(by simp [AA, g0] <;> omega), (by simp [AA, g5] <;> omega), zV, by simpa using hm, fun k hk => rfl, zO⟩ ?_
   rintro j ⟨fr2, h2, nx2⟩ ⟨s0, s5, s7, hm2, hold2, hj⟩ J2 hJ2
   simp only at s0 s5 s7 hm2 hold2
   have hlen2 : ((es ++ List.replicate j spareRow) ++ List.replicate (r - j) AV.nil).length = i + r := by simp [hel]; omega
   by_cases hjr : j < r
   ·have hl3 : (es ++ List.replicate j spareRow).length = i + j := by simp [hel]
    have hset2 : ((es ++ List.replicate j spareRow) ++ List.replicate (r - j) AV.nil).set (i + j) (.sl 9 [.str [126, 115, 112, 97, 114, 101, 126]] [] true) = (es ++ List.replicate (j + 1) spareRow) ++ List.replicate (r - (j + 1)) AV.nil := by
     rw [Fw hl3 zO, List.replicate_succ', List.append_assoc es]; rfl
    have hget2 : ((es ++ List.replicate j spareRow) ++ List.replicate (r - j) AV.nil)[i + j]? = some .nil := by rw [List.getElem?_append_right zO, hl3, Nat.sub_self, List.getElem?_replicate, if_pos zO]
    simp (disch := omega) only [go_sem, s0, s5, s7, hm2, hlen2, hset2, hget2]
    exact hJ2 (j + 1) _ ⟨(by simp [AA, s0] <;> omega), (by simp [AA, s5] <;> omega), (by simp [AA, s7] <;> omega), zU, fun k hk => by simp only [AA, if_neg hk, hold2 k hk], hjr⟩ zO
   ·obtain rfl : j = r := by omega
    rw [Nat.sub_self, List.replicate_zero, List.append_nil] at hm2 hlen2
    simp (disch := omega) only [go_sem, s0, s5, s7, hm2, hlen2, AN, hn']
    rw [← hQ]
    have HR2 := HR.keep (h' := h2) (hi' := nx1) (Nat.le_refl _) (fun k hk _ => hold2 k zO)
    obtain ⟨ids, q1, q2, q3⟩ := RowsN.own (st := (⟨_, h2, nx2⟩ : St)) (d := 6) HR2
    refine ⟨trivial, .ref 0 (i + j) 0 i, by simp [resV, resL, resA, AA], 0 :: (ids ++ []), ?_, .inl rfl⟩
    simp only [if_true]
    refine ⟨?_, ?_⟩
    ·rw [C2, if_pos ⟨by simp only; rw [hm2], by simp only; rw [hm2]; exact hlen2, rfl, zO, by simp only; rw [hm2]⟩]
     simp only [hm2, if_true]
     rw [List.take_left' hel, List.drop_left' hel, q1, BG Bp]
     simp
    ·rw [List.append_nil]
     exact List.nodup_cons.2 ⟨fun hm => by have := (q3 _ hm).1; omega, q2⟩
theorem RowsN.app {h : Nat → Blk} {b : Bool} {mid hi : Nat} (hm : mid ≤ hi) : ∀ {lo : Nat} {ps qs : List Row} {es fs : List AV}, lo ≤ mid → RowsN h b mid lo ps es → RowsN h b hi mid qs fs → RowsN h b hi lo (ps ++ qs) (es ++ fs)
 | lo, [], qs, [], fs, hl, _, H2 => by
  have low : ∀ {lo' lo : Nat} {qs : List Row} {fs : List AV}, lo ≤ lo' → RowsN h b hi lo' qs fs → RowsN h b hi lo qs fs := by
   intro lo' lo qs
   induction qs generalizing lo' lo with
   | nil => intro fs h1 H; cases fs with
    | nil => trivial
    | cons _ _ => exact H.elim
   | cons q qs ih => intro fs h1 H; cases fs with
    | nil => exact H.elim
    | cons f fs =>
     unfold RowsN at H ⊢
     split at H
     ·rename_i hn; rw [if_pos hn]; exact ⟨H.1, ih h1 H.2⟩
     ·rename_i hn; rw [if_neg hn]
      obtain ⟨id, k1, k⟩ := H
      exact ⟨id, zO, k⟩
  exact low hl H2
 | lo, p :: ps, qs, e :: es, fs, hl, H, H2 => by
  show RowsN h b hi lo (p :: (ps ++ qs)) (e :: (es ++ fs))
  unfold RowsN at H ⊢
  split at H
  ·rename_i hn; rw [if_pos hn]; exact ⟨H.1, RowsN.app hm hl H.2 H2⟩
  ·rename_i hn; rw [if_neg hn]
   obtain ⟨id, k1, k2, k3, k4, H⟩ := H
   exact ⟨id, k1, zO, k3, k4, RowsN.app hm zO H H2⟩
 | _, [], _, _ :: _, _, _, H, _ => H.elim
 | _, _ :: _, _, [], _, _, H, _ => H.elim
def nestNil (b : Bool) (rs : List Row) : Prop := b = true ∧ rs = []
instance (b : Bool) (rs : List Row) : Decidable (nestNil b rs) := by unfold nestNil; infer_instance
def ownSS (b : Bool) (rs : List Row) (k : Nat) : AV := if nestNil b rs then .nil else .own 22 (rs.map (ownP b)) (List.replicate k spareRow) true
def snpSS (b : Bool) (rs : List Row) : AV := if nestNil b rs then .nil else .sl 22 (rs.map (snpP b)) [] false
def NestN (h : Nat → Blk) (b : Bool) (hi lo : Nat) (rs : List Row) (k : Nat) (e : AV) : Prop :=
 if nestNil b rs then e = .nil else ∃ o es, lo ≤ o ∧ o < hi ∧ e = .ref o (rs.length + k) 0 rs.length ∧ h o = ⟨22, es ++ List.replicate k spareRow, true, true, true⟩ ∧ RowsN h b o lo rs es
section
variable {h h' : Nat → Blk} {b : Bool} {hi hi' lo : Nat} {rs : List Row} {k : Nat} {e : AV}
theorem NestN.keep (H : NestN h b hi lo rs k e) (h1 : ∀ i, lo ≤ i → i < hi → h' i = h i) (h2 : hi ≤ hi') : NestN h' b hi' lo rs k e := by
 unfold NestN at H ⊢
 split at H
 ·rename_i hn; rw [if_pos hn]; exact H
 ·rename_i hn; rw [if_neg hn]
  obtain ⟨o, es, k1, k2, k3, k4, k5⟩ := H
  exact ⟨o, es, k1, zO, k3, by rw [h1 o k1 k2, k4], k5.keep (Nat.le_refl _) (fun i a c => h1 i a zO)⟩
theorem NestN.snap {st : St} {d : Nat} (H : NestN st.h b hi lo rs k e) : ∃ ids, snapA st (d + 2) e = some (snpSS b rs, ids) := by
 unfold NestN at H
 unfold snpSS
 split at H
 ·rename_i hn; rw [if_pos hn, H]; exact ⟨[], AL rfl⟩
 ·rename_i hn; rw [if_neg hn]
  obtain ⟨o, es, k1, k2, k3, k4, k5⟩ := H
  obtain ⟨ids, q⟩ := RowsN.snap (st := st) (d := d) k5
  have hl := k5.len
  refine ⟨o :: ids, ?_⟩
  rw [k3, Ey, k4]
  simp only [List.length_append, List.length_replicate, hl, List.drop_zero]
  rw [if_pos ⟨trivial, trivial, zO⟩, List.take_left' hl, q]
  simp
theorem NestN.own {st : St} {d : Nat} (H : NestN st.h b hi lo rs k e) : ∃ ids, ownA st (d + 2) e = some (ownSS b rs k, ids) ∧ ids.Nodup ∧ ∀ i ∈ ids, lo ≤ i ∧ i < hi := by
 unfold NestN at H
 unfold ownSS
 split at H
 ·rename_i hn; rw [if_pos hn, H]; exact ⟨[], Ew rfl, zS, zS⟩
 ·rename_i hn; rw [if_neg hn]
  obtain ⟨o, es, k1, k2, k3, k4, k5⟩ := H
  obtain ⟨ids, q, q2, q3⟩ := RowsN.own (st := st) (d := d) k5
  have hl := k5.len
  refine ⟨o :: (ids ++ []), ?_, ?_, ?_⟩
  ·rw [k3, C2, k4]
   simp only [List.length_append, List.length_replicate, hl]
   rw [if_pos ⟨trivial, trivial, trivial, zO, trivial⟩, List.take_left' hl, List.drop_left' hl, q]
   simp only [if_true, Option.bind_some]
   rw [BG Bp]
   simp
  ·rw [List.append_nil]; exact List.nodup_cons.2 ⟨fun hm => by have := (q3 _ hm).2; omega, q2⟩
  ·intro i hi
   rw [List.append_nil] at hi
   rcases List.mem_cons.1 hi with rfl | hi
   ·exact ⟨k1, k2⟩
   ·have := q3 i hi; omega
theorem Nf (st : St) : ∃ e st', matA true (ownSS b rs k) st = (e, st') ∧ st'.fr = st.fr ∧ st.nx ≤ st'.nx ∧ (∀ i, i < st.nx → st'.h i = st.h i) ∧ NestN st'.h b st'.nx st.nx rs k e := by
 unfold ownSS NestN
 by_cases hn : nestNil b rs
 ·simp only [if_pos hn]; exact ⟨.nil, st, rfl, rfl, Nat.le_refl _, fun _ _ => rfl, rfl⟩
 ·simp only [if_neg hn]
  obtain ⟨es, st1, h1, h2, h3, h4, h5⟩ := Ej (b := b) rs st
  have hl := h5.len
  refine ⟨.ref st1.nx (rs.length + k) 0 rs.length, st1.new ⟨22, es ++ List.replicate k spareRow, true, true, true⟩, ?_, h2, by simp [St.new]; omega, fun i hi => ?_, st1.nx, es, h3, by simp [St.new], rfl, by simp [St.new, upd], ?_⟩
  ·rw [matA, h1]
   simp only [Am _ _ _ Bp, List.length_map, List.length_replicate]
  ·rw [← h4 i hi]; simp [St.new, upd]; omega
  ·exact h5.keep (Nat.le_refl _) (fun i a c => by simp [St.new, upd]; omega)
end
theorem RI {b : Bool} (p : Row) (st : St) : ∃ e st', matA true (ownP b p) st = (e, st') ∧ st'.fr = st.fr ∧ st.nx ≤ st'.nx ∧ (∀ i, i < st.nx → st'.h i = st.h i) ∧ RowsN st'.h b st'.nx st.nx [p] [e] := by
 obtain ⟨es, st', h1, h2, h3, h4, h5⟩ := Ej (b := b) [p] st
 rw [List.map_cons, List.map_nil, matL, matL] at h1
 cases h1
 exact ⟨_, _, rfl, h2, h3, h4, h5⟩
theorem WC {st : St} {i j m n : Nat} {xs ys : List (List UInt8)} {ex ex' gr gr' : Bool} (hi : st.h i = ⟨9, strA xs, ex, gr, true⟩) (hj : st.h j = ⟨9, strA ys, ex', gr', true⟩) (hm : xs.length = m) (hn : ys.length = n) :
  snapL (snapA st 8) [.ref i m 0 m, .ref j n 0 n] = some ([.sl 9 (strA xs) [] false, .sl 9 (strA ys) [] false], [i, j]) := by
 have h1 := I1 hi hm (Nat.le_refl _)
 have h2 := I1 hj hn (Nat.le_refl _)
 rw [List.take_of_length_le zO] at h1 h2
 exact Ql h1 h2
theorem Hx {fr : Nat → AV} {h : Nat → Blk} {nx i j n N : Nat} {xs sp : List (List UInt8)} (hi : h i = ⟨9, strA (xs ++ sp), true, true, true⟩) (hj : h j = ⟨9, strA (xs ++ sp), true, true, true⟩) (hn : xs.length = n) (hN : n + roomB n = N) (hsp : sp.length = roomB n) (hl : n ≤ 1000000) :
  InOk Tryz.prog ⟨fr, h, nx⟩ 28 [.ref i N 0 n, .ref j N 0 n] (.bool true) ⟨fr, h, nx⟩ := by
 refine Bd (W := fun _ => false) AS Tryz.func28 rfl zK zL (AC ?_)
 generalize hQ : PostIn Tryz.prog Tryz.f28 _ _ _ = Q
 have hrl := G9 n
 have hall : (xs ++ sp).length = N := by simp; omega
 have hal : (strA (xs ++ sp)).length = N := by rw [AE, hall]
 have hroom := cw zK zP zP (Jo n zO)
 have heq := XV (xs ++ sp) (xs ++ sp) zO zO
 rw [decide_eq_true rfl] at heq
 simp (disch := omega) only [go_sem, hi, hj, hal, hroom]
 (repeat (with_reducible refine Or.inr ?_))
 simp (disch := omega) only [go_sem, hi, hj, hal, hN]
 refine Jr heq zK (WC hi hj hall hall) rfl rfl ?_
 simp (disch := omega) only [go_sem]
 rw [← hQ]
 exact Bt (.inl rfl) rfl zV rfl rfl
theorem YT : callable Tryz.prog 23 = true := by kernel_rfl
theorem YU : callable Tryz.prog 26 = true := by kernel_rfl
def szR : List Txs → Int → Int
 | [], l => l
 | r :: rs, l => if szS r l < 0 then -1 else szR rs (szS r l)
def szSS (rs : List Txs) (l : Int) : Int := if l - rs.length < 0 then -1 else szR rs (l - rs.length)
def txsLen (r : Txs) : Prop := r.length < 4611686018427387904 ∧ ∀ x ∈ r, x.length < 4611686018427387904
theorem RJ : ∀ {rs : List Txs} {l : Int}, 0 ≤ l → 0 ≤ szR rs l → (∀ r ∈ rs, (r.length : Int) ≤ l ∧ ∀ x ∈ r, (x.length : Int) ≤ l) ∧ szR rs l ≤ l
 | [], l, h0, h => ⟨zS, by simp [szR]⟩
 | r :: rs, l, h0, h => by
  unfold szR at h ⊢
  by_cases c : szS r l < 0
  ·rw [if_pos c] at h; omega
  ·rw [if_neg c] at h ⊢
   obtain ⟨a1, a2, a3⟩ := GP h0 (show 0 ≤ szS r l by omega)
   obtain ⟨b1, b2⟩ := RJ (show 0 ≤ szS r l by omega) h
   refine ⟨fun q hq => ?_, zO⟩
   rcases List.mem_cons.1 hq with rfl | hq
   ·exact ⟨a1, a2⟩
   ·obtain ⟨c1, c2⟩ := b1 q hq
    exact ⟨zO, fun x hx => by have := c2 x hx; omega⟩
theorem T3 {rs : List Txs} {l : Int} (h0 : 0 ≤ l) (h : 0 ≤ szSS rs l) : (rs.length : Int) ≤ l ∧ (∀ r ∈ rs, (r.length : Int) ≤ l ∧ ∀ x ∈ r, (x.length : Int) ≤ l) ∧ szSS rs l ≤ l := by
 unfold szSS at h ⊢
 by_cases c : l - rs.length < 0
 ·rw [if_pos c] at h; omega
 ·rw [if_neg c] at h ⊢
  obtain ⟨b1, b2⟩ := RJ (show 0 ≤ l - rs.length by omega) h
  exact ⟨zO, fun r hr => ⟨by have := (b1 r hr).1; omega, fun x hx => by have := (b1 r hr).2 x hx; omega⟩, zO⟩
theorem WD {xs : Txs} {l : Int} : -1 ≤ szS xs l := by
 unfold szS
 split
 ·omega
 ·rename_i h
  generalize hq : l - (xs.length : Int) = q at *
  clear hq l
  induction xs generalizing q with
  | nil => simp [szL]; omega
  | cons x xs ih =>
   unfold szL
   split
   ·omega
   ·exact ih _ (by assumption)
theorem WE (rs : List Txs) (l : Int) (h0 : 0 ≤ l) (h1 : l ≤ 1000000) (hn : rs.length < 4611686018427387904) (hs : ∀ r ∈ rs, txsLen r) :
  CallOk Tryz.prog 23 [.sl 22 (rowsT rs) [] false, .int .i64 l] (.int .i64 (szSS rs l)) [] := by
 obtain ⟨n, hn'⟩ : ∃ n, rs.length = n := ⟨_, rfl⟩
 unfold szSS
 rw [hn'] at hn ⊢
 by_cases c : l - n < 0
 ·rw [if_pos c]
  (refine AB (W := fun _ => false) false AS Tryz.func23 rfl zK zL (AC ?_); generalize hQ : Post Tryz.prog Tryz.f23 _ _ _ _ _ = Q; simp only [stIn, matL, matA, st00])
  simp (disch := omega) only [go_sem, AN, hn']
  rw [← hQ]
  exact AG (.inl rfl) rfl zV rfl
 ·rw [if_neg c]
  obtain ⟨a, ha⟩ : ∃ a, szR rs (l - n) = a := ⟨_, rfl⟩
  rw [ha]
  (refine AB (W := fun _ => false) false AS Tryz.func23 rfl zK zL (AC ?_); generalize hQ : Post Tryz.prog Tryz.f23 _ _ _ _ _ = Q; simp only [stIn, matL, matA, st00])
  simp (disch := omega) only [go_sem, AN, hn']
  refine AM (fun (⟨i, q⟩ : Nat × Int) st => st.fr 0 = .sl 22 (rowsT rs) [] false ∧ st.fr 1 = .int .i64 q ∧ st.fr 5 = .int .i64 i ∧ i ≤ n ∧ 0 ≤ q ∧ q ≤ 1000000 ∧ szR (rs.drop i) q = a) (fun (⟨i, _⟩ : Nat × Int) => n - i) (0, l - n)
   ⟨zV, zV, zV, zO, zO, zO, by simpa using ha⟩ ?_
  rintro ⟨i, q⟩ ⟨fr, h, nx⟩ ⟨g0, g1, g5, hi, q0, q1, hq⟩ J hJ
  simp only at g0 g1 g5 hi q0 q1 hq
  by_cases hin : i < n
  ·obtain ⟨r, hr⟩ := AI (xs := rs) (i := i) zO
   have rtx := Ei hr
   obtain ⟨t1, t2⟩ := hs r (List.mem_of_getElem? hr)
   have hz := cw zK zP zP (VX r q q0 q1 t1 t2)
   rw [Ak hr, szR] at hq
   have hge := WD (xs := r) (l := q)
   have hbd : 0 ≤ szS r q → szS r q ≤ q := fun h => (GP q0 h).2.2
   generalize szS r q = z at *
   by_cases hz0 : z < 0
   ·rw [if_pos hz0] at hq
    rw [← hq] at hQ
    simp (disch := omega) only [go_sem, g0, g1, g5, rtx, AN, hn', hz]
    (repeat (with_reducible refine Or.inr ?_))
    rw [← hQ]
    exact AG (.inl rfl) rfl zV rfl
   ·rw [if_neg hz0] at hq
    have := hbd zO
    simp (disch := omega) only [go_sem, g0, g1, g5, rtx, AN, hn', hz]
    (repeat (with_reducible refine Or.inr ?_))
    exact hJ (i + 1, z) _ ⟨(by simp [AA, g0] <;> omega), zV, zV, hin, zO, zO, hq⟩ zT
  ·obtain rfl : i = n := by omega
   rw [List.drop_eq_nil_of_le zO, szR] at hq
   rw [← hq] at hQ
   simp (disch := omega) only [go_sem, g0, g1, g5, AN, hn']
   rw [← hQ]
   exact AG (.inl rfl) rfl zV rfl
theorem WF (k : Nat) (hk : k ≤ 2000000) : CallOk Tryz.prog 48 [.sl 22 (List.replicate k spareRow) [] false, .sl 22 (List.replicate k spareRow) [] false] (.bool true) [] := by
 have heq := XV [spareT] [spareT] zS zS
 rw [decide_eq_true rfl] at heq
 generalize hys : strA [spareT] = ys at *
 have hyp : AV.pureL ys = true := by rw [← hys]; exact AU _
 have heq2 : CallOk Tryz.prog 14 [.sl 9 ys [] true, .sl 9 ys [] true] (.bool true) [] := heq.args (SubL.cons Cm (SubL.cons Cm .nil))
 have hcw := cw zK (by simp [AV.pure, AV.pureL, hyp]) zP heq2
 have hat : ∀ i, i < k → (List.replicate k spareRow)[i]? = some (.sl 9 ys [] true) := fun i hi => by rw [List.getElem?_replicate, if_pos hi, spareRow, hys]
 have hlen : (List.replicate k spareRow).length = k := by simp
 have hpu := Bp (k := k)
 generalize List.replicate k spareRow = sp at *
 have hu : AV.pureL [AV.sl 22 sp [] false, AV.sl 22 sp [] false] = true := by simp [AV.pure, AV.pureL, hpu]
 (refine AB (W := fun _ => false) false AS Tryz.func48 rfl zK zL (AC ?_); generalize hQ : Post Tryz.prog Tryz.f48 _ _ _ _ _ = Q; simp only [stIn, matL, matA, st00, Am _ _ _ hu])
 simp (disch := omega) only [go_sem, hlen]
 refine AM (fun (i : Nat) st => st.fr 0 = .sl 22 sp [] false ∧ st.fr 1 = .sl 22 sp [] false ∧ st.fr 5 = .int .i64 i ∧ i ≤ k) (fun i => k - i) 0 ⟨zV, zV, zV, zO⟩ ?_
 rintro i ⟨fr, h, nx⟩ ⟨g0, g1, g5, hi⟩ J hJ
 simp only at g0 g1 g5
 by_cases hin : i < k
 ·have hati := hat i hin
  simp (disch := omega) only [go_sem, g0, g1, g5, hlen, hati, hcw]
  (repeat (with_reducible refine Or.inr ?_))
  exact hJ (i + 1) _ ⟨(by simp [AA, g0] <;> omega), (by simp [AA, g1] <;> omega), zV, hin⟩ zO
 ·obtain rfl : i = k := by omega
  simp (disch := omega) only [go_sem, g0, g1, g5, hlen]
  rw [← hQ]
  exact AG (.inl rfl) rfl zV rfl
theorem RK {st : St} {o N n r : Nat} {es : List AV} (h : st.h o = ⟨22, es ++ List.replicate r spareRow, true, true, true⟩) (he : es.length = n) (hN : n + r = N) : snapA st 8 (.ref o N n r) = some (.sl 22 (List.replicate r spareRow) [] false, [o]) := by
 rw [Ey, h]
 simp only [List.length_append, List.length_replicate, he]
 rw [if_pos ⟨trivial, hN, zO⟩, List.drop_left' he, List.take_of_length_le zS, Cj Bp]
 rfl
theorem D5 {p : Row} : ¬ rowNil false p := fun h => by cases h.1
set_option maxHeartbeats 1000000 in
theorem Mb {fr : Nat → AV} {h : Nat → Blk} {nx o1 o2 n N lo1 hi1 lo2 hi2 : Nat} {rs : List Txs} {es1 es2 : List AV} (h1 : h o1 = ⟨22, es1 ++ List.replicate (roomB n) spareRow, true, true, true⟩) (h2 : h o2 = ⟨22, es2 ++ List.replicate (roomB n) spareRow, true, true, true⟩)
  (R1 : RowsN h false hi1 lo1 (rowsP rs) es1) (R2 : RowsN h false hi2 lo2 (rowsP rs) es2) (hn : rs.length = n) (hN : n + roomB n = N) (hl : n ≤ 1000000) (hr : ∀ r ∈ rs, r.length ≤ 1000000) :
  InOk Tryz.prog ⟨fr, h, nx⟩ 29 [.ref o1 N 0 n, .ref o2 N 0 n] (.bool true) ⟨fr, h, nx⟩ := by
 refine Bd (W := fun _ => false) AS Tryz.func29 rfl zK zL (AC ?_)
 generalize hQ : PostIn Tryz.prog Tryz.f29 _ _ _ = Q
 have hrl := G9 n
 have hroom := cw zK zP zP (Jo n zO)
 have he1 : es1.length = n := by rw [R1.len, Cr, hn]
 have he2 : es2.length = n := by rw [R2.len, Cr, hn]
 have hL1 : (es1 ++ List.replicate (roomB n) spareRow).length = N := by simp; omega
 have hL2 : (es2 ++ List.replicate (roomB n) spareRow).length = N := by simp; omega
 have heq := WF (roomB n) zO
 have hs : ∀ fr' : Nat → AV, snapL (snapA (⟨fr', h, nx⟩ : St) 8) [.ref o1 N n (roomB n), .ref o2 N n (roomB n)] = some ([.sl 22 (List.replicate (roomB n) spareRow) [] false, .sl 22 (List.replicate (roomB n) spareRow) [] false], [o1, o2]) := fun fr' => by
  simp [snapL, RK (st := ⟨fr', h, nx⟩) h1 he1 hN, RK (st := ⟨fr', h, nx⟩) h2 he2 hN]
 have hNr : N - n = roomB n := by omega
 generalize hB1 : es1 ++ List.replicate (roomB n) spareRow = B1 at *
 generalize hB2 : es2 ++ List.replicate (roomB n) spareRow = B2 at *
 generalize roomB n = rm at *
 simp (disch := omega) only [go_sem, h1, h2, hL1, hL2, hroom, hN]
 (repeat (with_reducible refine Or.inr ?_))
 refine AM (fun (i : Nat) st => st.fr 0 = .ref o1 N 0 n ∧ st.fr 1 = .ref o2 N 0 n ∧ st.fr 5 = .int .i64 N ∧ st.fr 6 = .int .i64 i ∧ st.h = h ∧ st.nx = nx ∧ i ≤ n) (fun i => n - i) 0 ⟨zV, zV, zV, zV, rfl, rfl, zO⟩ ?_
 rintro i ⟨fr1, h', nx'⟩ ⟨g0, g1, g5, g6, eh, enx, hi⟩ J hJ
 simp only at g0 g1 g5 g6 eh enx
 subst eh enx
 by_cases hin : i < n
 ·obtain ⟨x, hx⟩ := AI (xs := rs) (i := i) zO
  have hxl := hr x (List.mem_of_getElem? hx)
  obtain ⟨id1, _, _, e1, b1⟩ := R1.at_ (Hv hx) D5
  obtain ⟨id2, _, _, e2, b2⟩ := R2.at_ (Hv hx) D5
  simp only at e1 e2
  have a1 : B1[i]? = some (.ref id1 (x.length + (spareL x.length).length) 0 x.length) := by rw [← hB1, List.getElem?_append_left zO]; exact e1
  have a2 : B2[i]? = some (.ref id2 (x.length + (spareL x.length).length) 0 x.length) := by rw [← hB2, List.getElem?_append_left zO]; exact e2
  have hsl : (spareL x.length).length = roomB x.length := by rw [spareL]; simp
  simp (disch := omega) only [go_sem, g0, g1, g5, g6, h1, h2, hL1, hL2, a1, a2]
  refine Aj (Hx (i := id1) (j := id2) (xs := x) (sp := spareL x.length) b1 b2 rfl (by rw [hsl]) hsl hxl) zK (.inr ⟨rfl, rfl⟩) ?_
  simp (disch := omega) only [go_sem, g0, g1, g5, g6, h1, h2, hL1, hL2]
  exact hJ (i + 1) _ ⟨(by simp [AA, g0] <;> omega), (by simp [AA, g1] <;> omega), (by simp [AA, g5] <;> omega), zV, rfl, rfl, hin⟩ zO
 ·obtain rfl : i = n := by omega
  simp (disch := omega) only [go_sem, g0, g1, g5, g6, h1, h2, hL1, hL2, hNr]
  refine Jr heq zK (hs _) rfl rfl ?_
  simp (disch := omega) only [go_sem]
  rw [← hQ]
  exact Bt (.inl rfl) rfl zV rfl rfl
structure Mdl where
 room : Int
 come : List UInt8
 serve : List UInt8
 reward : List UInt8
 cost : List UInt8
abbrev Mdl.av (m : Mdl) : AV := .agg [.int .i64 m.room, .str m.come, .str m.serve, .str m.reward, .str m.cost]
def Mdl.small (m : Mdl) : Prop := m.come.length ≤ 1000000 ∧ m.serve.length ≤ 1000000 ∧ m.reward.length ≤ 1000000 ∧ m.cost.length ≤ 1000000
structure MR where
 room : Nat
 come : Rat
 serve : Rat
 reward : Rat
 cost : Rat
def modOk (m : Mdl) (c s r k : Rat) : Prop := 1 ≤ m.room ∧ m.room ≤ 8 ∧ 0 < c ∧ 0 < s ∧ 0 ≤ r ∧ 0 ≤ k ∧ c + s ≤ 1
instance (m : Mdl) (c s r k : Rat) : Decidable (modOk m c s r k) := by unfold modOk; infer_instance
abbrev MR.sv (x : MR) : AV := .agg [.int .i64 x.room, .bool (decide (x.come.num < 0)), tS 700 x.come, dS 700 x.come, .bool (decide (x.serve.num < 0)), tS 700 x.serve, dS 700 x.serve,
 .bool (decide ((1 - x.come - x.serve).num < 0)), tS 1466 (1 - x.come - x.serve), dS 1466 (1 - x.come - x.serve), .bool (decide (x.reward.num < 0)), tS 700 x.reward, dS 700 x.reward, .bool (decide (x.cost.num < 0)), tS 700 x.cost, dS 700 x.cost]
abbrev zeroMS : AV := .agg [.int .i64 0, .bool false, .nil, .nil, .bool false, .nil, .nil, .bool false, .nil, .nil, .bool false, .nil, .nil, .bool false, .nil, .nil]
def modS : Option MR → AV
 | some x => .tup [x.sv, .bool true]
 | none => .tup [zeroMS, .bool false]
theorem WG (x : MR) : modS (some x) = .tup [x.sv, .bool true] := rfl
theorem WH : modS none = .tup [zeroMS, .bool false] := rfl
attribute [go_sem] WG WH
theorem Ya : Int.toNat 0 = 0 := rfl
theorem Yb : Int.toNat 1 = 1 := rfl
attribute [go_sem] Ya Yb
theorem Un {s : List UInt8} (hs : s.length ≤ 1000000) : ∃ x y z, CW Tryz.prog 102 [.str s] (.tup [.agg [x, y, z], .bool (parseR s).isSome]) ∧ x.one = true ∧ y.one = true ∧ z.one = true := by
 have h := GV (s := s) zO
 cases hq : parseR s with
 | none => rw [hq] at h; exact ⟨_, _, _, h, rfl, rfl, rfl⟩
 | some q => rw [hq] at h; exact ⟨_, _, _, h, rfl, zS, zS⟩
def posR (s : List UInt8) : Option Rat := match parseR s with | some q => if 0 < q then some q else none | none => none
def posI : Option Rat → AV
 | some q => .tup [rI 700 q, .bool (decide (0 < q))]
 | none => .tup [.agg [.bool false, .nil, .nil], .bool false]
theorem RL (q : Rat) : posI (some q) = .tup [rI 700 q, .bool (decide (0 < q))] := rfl
theorem WI : posI none = .tup [.agg [.bool false, .nil, .nil], .bool false] := rfl
@[simp] theorem Wy (o : Option Rat) : (posI o).pure = true := by cases o <;> simp [posI, AV.pure, AV.pureL]
attribute [go_sem] RL WI
theorem LP (q : Rat) : decide (0 < q.num.sign) = decide (0 < q) := by
 have h1 : 0 < q.num ↔ 0 < q := by
  have a := Rat.num_nonneg (q := q)
  have b := Bk (a := q)
  constructor
  ·intro h; exact Rat.lt_of_le_of_ne (a.1 zO) (fun e => by rw [← e] at h; simp at h)
  ·intro h
   have h2 := a.2 (Rat.le_of_lt h)
   have h3 : q.num ≠ 0 := fun e => by rw [b.1 e] at h; exact Rat.lt_irrefl h
   omega
 have h2 : 0 < q.num.sign ↔ 0 < q.num := by
  rcases Int.lt_trichotomy q.num 0 with h | h | h
  ·rw [Int.sign_eq_neg_one_of_neg h]; omega
  ·rw [h]; simp
  ·rw [Int.sign_eq_one_of_pos h]; omega
 exact decide_eq_decide.2 (h2.trans h1)
theorem Hy {s : List UInt8} (hs : s.length ≤ 1000000) : CW Tryz.prog 103 [.str s] (posI (parseR s)) := by
 refine cw zK zP zP ?_
 have h := GV (s := s) zO
 cases hq : parseR s with
 | none =>
  rw [hq] at h
  (refine AB (W := fun _ => false) false AS Tryz.func103 rfl zK zL (AC ?_); generalize hQ : Post Tryz.prog Tryz.f103 _ _ _ _ _ = Q; simp only [stIn, matL, matA, st00])
  simp (disch := omega) only [go_sem, h]
  (repeat (with_reducible refine Or.inr ?_))
  rw [← hQ]
  exact DJ (id := 0) (x := .agg [.bool false, .nil, .nil]) (.inl rfl) rfl BA zV zU zU Ar zV rfl rfl
 | some q =>
  rw [hq] at h
  have hsg := LP q
  have hs2 := Cq (m := 700) (a := q) zO
  rw [RL, ← hsg]
  generalize q.num.sign = sg at *
  by_cases hp : 0 < sg
  all_goals
   (refine AB (W := fun _ => false) false AS Tryz.func103 rfl zK zL (AC ?_); generalize hQ : Post Tryz.prog Tryz.f103 _ _ _ _ _ = Q; simp only [stIn, matL, matA, st00])
   simp (disch := omega) only [go_sem, h, hs2]
   (repeat (with_reducible refine Or.inr ?_))
   rw [← hQ]
   exact DJ (id := 0) (x := rI 700 q) (.inl rfl) rfl BA zV zU zU Ar (by simp [AA]; omega) zP rfl
attribute [go_sem] Hy
attribute [go_sem] Hy
theorem Gr {xs : List (List UInt8)} {ex : Bool} (hl : xs.length ≤ 1000000) (hs : ∀ x ∈ xs, x.length ≤ 1000000) : CW Tryz.prog 69 [.sl 9 (strA xs) [] ex] (optLI (xs.mapM posR)) := by
 refine cw zK zP zP ?_
 obtain ⟨n, hn⟩ : ∃ n, xs.length = n := ⟨_, rfl⟩
 rw [hn] at hl
 (refine AB (W := fun _ => false) false AS Tryz.func69 rfl zK zL (AC ?_); generalize hQ : Post Tryz.prog Tryz.f69 _ _ _ _ _ = Q; simp only [stIn, matL, matA, st00])
 simp (disch := omega) only [go_sem, AE, hn]
 refine AM (fun (⟨i, qs⟩ : Nat × List Rat) st => st.fr 4 = .ref 0 i 0 i ∧ st.fr 10 = .sl 9 (strA xs) [] ex ∧ st.fr 11 = .int .i64 n ∧ st.fr 12 = .int .i64 i ∧ (∃ ex, st.h 0 = ⟨76, ratL 700 qs, ex, true, true⟩) ∧ 0 < st.nx ∧ (qs.length = i) ∧ (i ≤ n) ∧ ((xs.take i).mapM posR = some qs)) (fun (⟨i, qs⟩ : Nat × List Rat) => n - i) (0, [])
  ⟨(by simp [AA, Ee] <;> omega), (by simp [AA, Ee] <;> omega), (by simp [AA, Ee] <;> omega), (by simp [AA, Ee] <;> omega), ⟨true, (by simp [AA, Ee] <;> omega)⟩, (by simp <;> omega), rfl, zO, zS⟩ ?_
 rintro ⟨i, qs⟩ ⟨fr, h, nx⟩ ⟨g4, g10, g11, g12, ⟨ex0, hm0⟩, hnx, hql, hi, hq⟩ J hJ
 simp only at g4 g10 g11 g12 hm0 hnx
 have n1 : (0 = nx) = False := by simp; omega
 have n2 : (nx = 0) = False := by simp; omega
 by_cases hin : i < n
 ·obtain ⟨x, hx⟩ := AI (xs := xs) (i := i) zO
  have hxl := hs x (List.mem_of_getElem? hx)
  cases hp : parseR x with
  | none =>
   rw [DK hx (show posR x = none by simp [posR, hp])] at hQ
   simp (disch := omega) only [go_sem, g4, g10, g11, g12, AQ, hx, AE, hn, hp]
   (repeat (with_reducible refine Or.inr ?_))
   rw [← hQ]
   exact Ag (.inl rfl) rfl zV zV rfl rfl
  | some q =>
   by_cases h0 : 0 < q
   ·have hd : decide (0 < q) = true := by simpa using h0
    have hmt := Dx hq hx (show posR x = some q by simp [posR, hp, h0])
    simp (disch := omega) only [go_sem, g4, g10, g11, g12, hm0, AQ, hx, AE, hn, hp, hd, n1, n2, hql, reach]
    (repeat (with_reducible refine Or.inr ?_))
    exact hJ (i + 1, qs ++ [q]) _ ⟨zV, (by simp [AA, g10] <;> omega), (by simp [AA, g11] <;> omega), zV, ⟨false, by simp [AA, n1, n2, hm0, ratL]⟩, (by simp <;> omega), by simp [hql], hin, hmt⟩ zT
   ·have hd : decide (0 < q) = false := by simpa using h0
    rw [DK hx (show posR x = none by simp [posR, hp, h0])] at hQ
    simp (disch := omega) only [go_sem, g4, g10, g11, g12, AQ, hx, AE, hn, hp, hd]
    (repeat (with_reducible refine Or.inr ?_))
    rw [← hQ]
    exact Ag (.inl rfl) rfl zV zV rfl rfl
 ·obtain rfl : i = n := by omega
  rw [List.take_of_length_le zO] at hq
  rw [hq] at hQ
  simp (disch := omega) only [go_sem, g4, g10, g11, g12]
  rw [← hQ]
  have hfz : snapA (⟨_, h, nx⟩ : St) 7 (.ref 0 i 0 i) = some (.sl 76 (ratL 700 qs) [] false, [0]) := Av (st := ⟨fr, h, nx⟩) (d := 6) (by simp [hm0]) (by simp [hm0, Ab, hql]) (by simp [hm0]) zS (by simp [hm0]; exact List.take_of_length_le (by simp [Ab, hql])) Cp
  exact EX (.inl rfl) rfl zV zV hfz (AL rfl) (fun a _ => Nat.zero_le _) (.inl rfl)
abbrev MR.iv (x : MR) : AV := .agg [.int .i64 x.room, .bool (decide (x.come.num < 0)), tI 700 x.come, dI 700 x.come, .bool (decide (x.serve.num < 0)), tI 700 x.serve, dI 700 x.serve,
 .bool (decide (x.reward.num < 0)), tI 700 x.reward, dI 700 x.reward, .bool (decide (x.cost.num < 0)), tI 700 x.cost, dI 700 x.cost]
abbrev zeroMI : AV := .agg [.int .i64 0, .bool false, .nil, .nil, .bool false, .nil, .nil, .bool false, .nil, .nil, .bool false, .nil, .nil]
def modI : Option MR → AV
 | some x => .tup [x.iv, .bool true]
 | none => .tup [zeroMI, .bool false]
theorem WJ (x : MR) : modI (some x) = .tup [x.iv, .bool true] := rfl
theorem WK : modI none = .tup [zeroMI, .bool false] := rfl
attribute [go_sem] WJ WK
attribute [go_sem] Gr
structure Ntw where
 arr : List (List UInt8)
 srv : List (List UInt8)
 rts : List (List (List UInt8))
structure NR where
 arr : List Rat
 srv : List Rat
 rts : List (List Rat)
def nonneg (qs : List Rat) : Bool := qs.all fun q => !decide (q < 0)
def rowQ (n : Nat) (xs : List (List UInt8)) : Option (List Rat) :=
 match listR xs with
 | some r => if r.length = n ∧ nonneg r = true ∧ ¬ 1 < sumL r then some r else none
 | none => none
def netOk (m : Ntw) : Prop := 1 ≤ m.srv.length ∧ m.srv.length ≤ 6 ∧ m.arr.length = m.srv.length ∧ m.rts.length = m.srv.length
instance (m : Ntw) : Decidable (netOk m) := by unfold netOk; infer_instance
def netQ (m : Ntw) : Option NR :=
 if netOk m then
  match listR m.arr, m.srv.mapM posR with
  | some a, some s => if nonneg a = true then (match m.rts.mapM (rowQ m.srv.length) with | some r => some ⟨a, s, r⟩ | none => none) else none
  | _, _ => none
 else none
theorem D6 {n : Nat} {xs : List (List UInt8)} {r : List Rat} (h : rowQ n xs = some r) : listR xs = some r ∧ r.length = n ∧ nonneg r = true ∧ ¬ 1 < sumL r := by
 unfold rowQ at h
 split at h
 ·split at h
  ·cases h; exact ⟨by assumption, ‹_›⟩
  ·cases h
 ·cases h
theorem Cs {α β : Type} {f : α → Option β} : ∀ {xs : List α} {ys : List β}, xs.mapM f = some ys → ys.length = xs.length
 | [], ys, h => by simp at h; simp [h]
 | x :: xs, ys, h => by
  simp only [List.mapM_cons, Option.bind_eq_bind, Option.bind_eq_some_iff, Option.pure_def, Option.some.injEq] at h
  obtain ⟨y, _, zs, hz, rfl⟩ := h
  simp [Cs hz]
theorem DM {α β : Type} {f : α → Option β} {P : β → Prop} (hP : ∀ x y, f x = some y → P y) : ∀ {xs : List α} {ys : List β}, xs.mapM f = some ys → ∀ y ∈ ys, P y
 | [], ys, h => by simp at h; simp [h]
 | x :: xs, ys, h => by
  simp only [List.mapM_cons, Option.bind_eq_bind, Option.bind_eq_some_iff, Option.pure_def, Option.some.injEq] at h
  obtain ⟨y, hy, zs, hz, rfl⟩ := h
  intro z hm
  rcases List.mem_cons.1 hm with rfl | hm
  ·exact hP _ _ hy
  ·exact DM hP hz z hm
section
variable (lv : Nat → Bool) (nz : Nat → Nat → Bool) (n : Nat)
def eAny (S : Nat → Bool) (i j : Nat) : Bool := (List.range j).any fun k => nz i k && S k
def eStep (S : Nat → Bool) (i : Nat) : Nat → Bool := fun k => if k = i then S i || lv i || eAny nz S i n else S k
def eRow (S : Nat → Bool) : Nat → Nat → Bool
 | 0 => S
 | i + 1 => eStep lv nz n (eRow S i) i
def eAll : Nat → Nat → Bool
 | 0 => fun _ => false
 | t + 1 => eRow lv nz n (eAll t) n
def endsB : Bool := (List.range n).all (eAll lv nz n n)
end
theorem I9 {nz : Nat → Nat → Bool} {S : Nat → Bool} {i j : Nat} : eAny nz S i (j + 1) = (eAny nz S i j || (nz i j && S j)) := by
 simp [eAny, List.range_succ]
theorem JA {nz : Nat → Nat → Bool} {S : Nat → Bool} {i : Nat} : eAny nz S i 0 = false := rfl
def eOut (lv : Nat → Bool) (nz : Nat → Nat → Bool) (S : Nat → Bool) (i j : Nat) : Nat → Bool := fun k => if k = i then S i || lv i || eAny nz S i j else S k
theorem O7 {lv : Nat → Bool} {nz : Nat → Nat → Bool} {n : Nat} {S : Nat → Bool} {i : Nat} : eOut lv nz S i n = eStep lv nz n S i := rfl
theorem O8 {lv : Nat → Bool} {nz : Nat → Nat → Bool} {S : Nat → Bool} {i : Nat} : eOut lv nz S i 0 = fun k => if k = i then S i || lv i else S k := by
 funext k; simp [eOut, JA]
theorem O9 {lv : Nat → Bool} {nz : Nat → Nat → Bool} {S : Nat → Bool} {i j : Nat} : (eOut lv nz S i j i || (nz i j && eOut lv nz S i j j)) = eOut lv nz S i (j + 1) i := by
 simp only [eOut, if_true, I9]
 by_cases h : j = i
 ·subst h
  simp only [if_true]
  cases S j <;> cases lv j <;> cases eAny nz S j j <;> cases nz j j <;> rfl
 ·rw [if_neg h]
  cases S i <;> cases lv i <;> cases eAny nz S i j <;> cases nz i j <;> cases S j <;> rfl
theorem FY {lv : Nat → Bool} {nz : Nat → Nat → Bool} {S : Nat → Bool} {i j k : Nat} (h : k ≠ i) : eOut lv nz S i j k = S k := by simp [eOut, h]
def mapB (n : Nat) (S : Nat → Bool) : List Bool := (List.range n).map S
theorem Fx {n : Nat} {S : Nat → Bool} : (mapB n S).length = n := by simp [mapB]
theorem T4 {n i : Nat} {S : Nat → Bool} (h : i < n) : (mapB n S)[i]? = some (S i) := by simp [mapB, h]
theorem LQ {n i : Nat} {S T : Nat → Bool} {b : Bool} (hb : b = T i) (hT : ∀ k, k ≠ i → T k = S k) : (mapB n S).set i b = mapB n T := by
 apply List.ext_getElem
 ·simp [mapB]
 ·intro k h1 h2
  simp only [mapB, List.getElem_set, List.getElem_map, List.getElem_range]
  by_cases h : i = k
  ·subst h; simp [hb]
  ·rw [if_neg h, hT k (fun e => h e.symm)]
theorem Mc {n : Nat} : List.replicate n false = mapB n fun _ => false := by
 apply List.ext_getElem <;> simp [mapB]
def setL (S : Nat → Bool) (n : Nat) : List Nat := (List.range n).filter S
def putL : List Nat → Nat → List Nat
 | [], n => [n]
 | x :: xs, n => if x < n then x :: putL xs n else if x = n then x :: xs else n :: x :: xs
theorem LR {S T : Nat → Bool} {i : Nat} (hi : T i = true) (hT : ∀ k, k ≠ i → T k = S k) : ∀ (m a : Nat), a ≤ i → i < a + m → putL ((List.range' a m).filter S) i = (List.range' a m).filter T
 | 0, a, h1, h2 => by omega
 | m + 1, a, h1, h2 => by
  rw [List.range'_succ]
  by_cases e : a = i
  ·subst e
   have hrest : (List.range' (a + 1) m).filter T = (List.range' (a + 1) m).filter S := List.filter_congr fun k hk => hT k (by have := List.mem_range'_1.1 hk; omega)
   rw [List.filter_cons, List.filter_cons, if_pos hi, hrest]
   by_cases hs : S a = true
   ·rw [if_pos hs]; simp [putL]
   ·rw [if_neg hs]
    have hgt : ∀ k ∈ (List.range' (a + 1) m).filter S, a < k := fun k hk => by
     have := List.mem_range'_1.1 (List.mem_filter.1 hk).1; omega
    cases hl : (List.range' (a + 1) m).filter S with
    | nil => simp [putL]
    | cons x xs =>
     have := hgt x (by rw [hl]; simp)
     simp only [putL]
     rw [if_neg zO, if_neg zO]
  ·have ih := LR hi hT m (a + 1) zO zO
   rw [List.filter_cons, List.filter_cons, hT a e]
   by_cases hs : S a = true
   ·rw [if_pos hs, if_pos hs]
    simp only [putL]
    rw [if_pos zO, ih]
   ·rw [if_neg hs, if_neg hs, ih]
theorem RM {S T : Nat → Bool} {i n : Nat} (h : i < n) (hi : T i = true) (hT : ∀ k, k ≠ i → T k = S k) : putL (setL S n) i = setL T n := by
 unfold setL; rw [List.range_eq_range']; exact LR hi hT n 0 (Nat.zero_le _) zO
theorem Hz {S : Nat → Bool} {n : Nat} : (setL S n).length ≤ n := by
 unfold setL; have := List.length_filter_le S (List.range n); simpa using this
theorem RN {S : Nat → Bool} {n : Nat} : decide ((setL S n).length = n) = (List.range n).all S := by
 unfold setL
 by_cases h : (List.range n).all S = true
 ·rw [h, decide_eq_true]
  rw [List.filter_eq_self.2 (fun k hk => List.all_eq_true.1 h k hk)]; simp
 ·have h' : (List.range n).all S = false := by simpa using h
  rw [h', decide_eq_false]
  intro hl
  refine h (List.all_eq_true.2 fun k hk => ?_)
  have := List.length_filter_eq_length_iff.1 (by simpa using hl) k hk
  exact this
theorem LS {S : Nat → Bool} {n k : Nat} (h : k < n) : (setL S n).contains k = S k := by
 unfold setL
 cases hs : S k with
 | true => simp [h, hs]
 | false => simp [hs]

theorem Uo {m n : Nat} {q : Rat} (h1 : fits m q) (h2 : fits n q) : rI m q = rI n q := by rw [BT h1, BT h2]
theorem Up {m n : Nat} {q : Rat} (h1 : fits m q) (h2 : fits n q) : rS m q = rS n q := by rw [CO h1, CO h2]
theorem RO {m n : Nat} {a b : Rat} (h1 : fits m a) (h2 : fits n b) : fits (m + n + 1) (a - b) := by
 rw [Rat.sub_eq_add_neg]; exact Dz h1 (Cb h2)
def optT : Option (List UInt8) → AV
 | some s => .tup [.str s, .bool true]
 | none => .tup [.str [], .bool false]
theorem WL (s : List UInt8) : optT (some s) = .tup [.str s, .bool true] := rfl
theorem WM : optT none = .tup [.str [], .bool false] := rfl
def mapF (n : Nat) (f : Nat → Rat) : List Rat := (List.range n).map f
theorem DN {n : Nat} {f : Nat → Rat} : mapF (n + 1) f = mapF n f ++ [f n] := by simp [mapF, List.range_succ]
theorem Ai {n : Nat} {f : Nat → Rat} : (mapF n f).length = n := by simp [mapF]
theorem A5 {n i : Nat} {f : Nat → Rat} (h : i < n) : (mapF n f)[i]? = some (f i) := by simp [mapF, h]
theorem Bi {n : Nat} {f g : Nat → Rat} (h : ∀ i, i < n → f i = g i) : mapF n f = mapF n g := List.map_congr_left fun i hi => h i (List.mem_range.1 hi)


theorem Fy {qs : List Rat} {i : Nat} {q : Rat} (h : qs[i]? = some q) : qs.getD i 0 = q := by rw [List.getD_eq_getElem?_getD, h]; rfl
def negI : List Rat → Nat → Int
 | [], _ => -1
 | q :: qs, k => if q < 0 then (k : Int) else negI qs (k + 1)
theorem Ng : ∀ (qs : List Rat) (k : Nat), decide (0 ≤ negI qs k) = !(qs.all fun q => !decide (q < 0))
 | [], _ => by simp [negI]
 | q :: qs, k => by
  rw [negI]
  by_cases h : q < 0
  ·simp [h]
  ·rw [if_neg h, Ng qs (k + 1)]; simp [h]
theorem T5 {qs : List Rat} {i : Nat} {q : Rat} (h : qs[i]? = some q) : negI (qs.drop i) i = if q < 0 then (i : Int) else negI (qs.drop (i + 1)) (i + 1) := by
 obtain ⟨hi, rfl⟩ := List.getElem?_eq_some_iff.1 h
 rw [List.drop_eq_getElem_cons hi, negI]
theorem T6 : elT Tryz.prog 98 = some 5 := by kernel_rfl
theorem T7 : okT Tryz.prog 98 = true := by kernel_rfl
theorem T8 : aggT Tryz.prog 5 = false := by kernel_rfl
theorem T9 : (Tryz.prog.info? 5).isSome = true := by kernel_rfl
theorem UA : szT Tryz.prog 5 = 1 := by kernel_rfl
theorem UB : byT Tryz.prog 5 = 1 := by kernel_rfl
theorem UC : zeroA Tryz.prog 5 = some (.int .u8 0) := by kernel_rfl
theorem RP : zokT Tryz.prog 5 = true := by kernel_rfl
theorem UD : u32T Tryz.prog 5 = false := by kernel_rfl
theorem RQ : u8T Tryz.prog 5 = true := by kernel_rfl
attribute [go_sem] T6 T7 T8 T9 UA UB UC RP UD RQ

attribute [go_sem] WL WM



theorem RR {qs : List Rat} {f : Rat → Bool} {i : Nat} {q : Rat} (h : qs[i]? = some q) : (qs.take (i + 1)).all f = ((qs.take i).all f && f q) := by
 rw [List.take_add_one, h]; simp
theorem UE {qs : List Rat} {f : Rat → Bool} {i : Nat} {q : Rat} (h : qs[i]? = some q) (hf : f q = false) : qs.all f = false := by
 simp only [List.all_eq_false]
 exact ⟨q, List.mem_of_getElem? h, by simp [hf]⟩
theorem Ek {qs : List Rat} (hl : qs.length ≤ 1000) : CW Tryz.prog 50 [lS 700 qs] (.bool (qs.all fun q => !decide (q < 0))) := by
 refine cw zK zP zP ?_
 obtain ⟨L, hL⟩ : ∃ n, qs.length = n := ⟨_, rfl⟩
 rw [hL] at hl
 (refine AB (W := fun _ => false) false AS Tryz.func50 rfl zK zL (AC ?_); generalize hQ : Post Tryz.prog Tryz.f50 _ _ _ _ _ = Q; simp only [stIn, matL, matA, st00])
 simp (disch := omega) only [go_sem, hL]
 refine AM (fun (i : Nat) st => st.fr 0 = lS 700 qs ∧ st.fr 5 = .int .i64 L ∧ st.fr 6 = .int .i64 i ∧ i ≤ L ∧ (qs.take i).all (fun q => !decide (q < 0)) = true) (fun i => L - i) 0 ⟨zV, zV, zV, zO, rfl⟩ ?_
 rintro i ⟨fr, h, nx⟩ ⟨g0, g5, g6, hi, ha⟩ J hJ
 simp only at g0 g5 g6
 by_cases hin : i < L
 ·obtain ⟨q, hq⟩ := AI (xs := qs) (i := i) zO
  have hnn := Jv q
  by_cases hneg : q < 0
  ·rw [UE hq (by simp [hneg])] at hQ
   rw [decide_eq_true hneg] at hnn
   simp (disch := omega) only [go_sem, g0, g5, g6, hq, hnn]
   rw [← hQ]
   exact AG (.inl rfl) rfl zV rfl
  ·rw [decide_eq_false hneg] at hnn
   simp (disch := omega) only [go_sem, g0, g5, g6, hq, hnn]
   exact hJ (i + 1) _ ⟨(by simp [AA, g0] <;> omega), (by simp [AA, g5] <;> omega), zV, hin, by rw [RR hq, ha]; simp [hneg]⟩ zO
 ·obtain rfl : i = L := by omega
  rw [List.take_of_length_le zO] at ha
  rw [ha] at hQ
  simp (disch := omega) only [go_sem, g0, g5, g6]
  rw [← hQ]
  exact AG (.inl rfl) rfl zV rfl
theorem RS {m : Nat} {qs : List Rat} (hm : m ≤ 100000) (hl : qs.length ≤ 1000) : CallOk Tryz.prog 54 [lS m qs] (rS (64 + qs.length * (m + 1)) (sumL qs)) [] := by
 obtain ⟨n, hn⟩ : ∃ n, qs.length = n := ⟨_, rfl⟩
 rw [hn] at hl ⊢
 (refine AB (W := fun _ => false) false AS Tryz.func54 rfl zK zL (AC ?_); generalize hQ : Post Tryz.prog Tryz.f54 _ _ _ _ _ = Q; simp only [stIn, matL, matA, st00])
 simp (disch := omega) only [go_sem, hn]
 (repeat (with_reducible refine Or.inr ?_))
 refine AM (fun (i : Nat) st => st.fr 0 = lS m qs ∧ st.fr 2 = .ptr 0 1 0 0 ∧ st.fr 3 = .ptr 1 1 0 0 ∧ st.fr 7 = .int .i64 n ∧ st.fr 8 = .int .i64 i ∧ st.h 0 = ⟨85, [.agg [.bool false, .nil, .nil]], true, false, true⟩ ∧ st.h 1 = ⟨85, [rS (64 + i * (m + 1)) (sumL (qs.take i))], true, false, true⟩ ∧ 1 < st.nx ∧ (i ≤ n)) (fun (i : Nat) => n - i) (0)
  ⟨(by simp [AA, sumL] <;> omega), (by simp [AA, sumL] <;> omega), (by simp [AA, sumL] <;> omega), (by simp [AA, sumL] <;> omega), (by simp [AA, sumL] <;> omega), (by simp [AA, sumL] <;> omega), (by simp [AA, sumL] <;> omega), (by simp <;> omega), zO⟩ ?_
 rintro i ⟨fr, h, nx⟩ ⟨g0, g2, g3, g7, g8, hm0, hm1, hnx, hi⟩ J hJ
 simp only at g0 g2 g3 g7 g8 hm0 hm1 hnx
 by_cases hin : i < n
 ·obtain ⟨q, hq⟩ := AI (xs := qs) (i := i) zO
  have hb : i * (m + 1) ≤ 1000 * 100001 := Nat.mul_le_mul zO zO
  have e : 64 + (i + 1) * (m + 1) = 64 + i * (m + 1) + m + 1 := by rw [Nat.add_mul]; omega
  have key := hJ (i + 1)
  rw [I5 hq, e] at key
  simp (disch := omega) only [go_sem, g0, g2, g3, g7, g8, hm0, hm1, hq, hn]
  (repeat (with_reducible refine Or.inr ?_))
  exact key _ ⟨(by simp [AA, g0] <;> omega), (by simp [AA, g2] <;> omega), (by simp [AA, g3] <;> omega), (by simp [AA, g7] <;> omega), zV, (by simp [AA, hm0] <;> omega), zV, (by simp <;> omega), hin⟩ zO
 ·obtain rfl : i = n := by omega
  rw [List.take_of_length_le zO] at hm1
  simp (disch := omega) only [go_sem, g0, g2, g3, g7, g8, hm0, hm1, hn]
  (repeat (with_reducible refine Or.inr ?_))
  rw [← hQ]
  exact AP (id := 0) (x := rS (64 + i * (m + 1)) (sumL qs)) (.inl rfl) rfl BU (by simp [AA, g2] <;> omega) zU zU B5 zP
attribute [go_sem] Ek
theorem H0 {m : Nat} {qs : List Rat} (hm : m ≤ 100000) (hl : qs.length ≤ 1000) : CW Tryz.prog 54 [lS m qs] (rS (64 + qs.length * (m + 1)) (sumL qs)) :=
 cw zK zP zP (RS hm hl)
attribute [go_sem] H0
theorem J7 {n : Nat} : ∀ {ys zs : List Nat}, (∀ y ∈ ys, y < n) → putL (ys ++ zs) n = ys ++ putL zs n
 | [], zs, _ => rfl
 | y :: ys, zs, h => by
  simp only [List.cons_append, putL]
  rw [if_pos (h y zS), J7 fun z hz => h z (by simp [hz])]
theorem JB {n x : Nat} : ∀ {ys : List Nat}, (∃ y ∈ ys, ¬ y < n) → putL (ys ++ [x]) n = putL ys n ++ [x]
 | [], h => by obtain ⟨_, h, _⟩ := h; cases h
 | y :: ys, h => by
  simp only [List.cons_append, putL]
  by_cases c : y < n
  ·rw [if_pos c, if_pos c, JB (by
    obtain ⟨z, hz, hn⟩ := h
    rcases List.mem_cons.1 hz with rfl | hz
    ·exact absurd c hn
    ·exact ⟨z, hz, hn⟩)]; rfl
  ·rw [if_neg c, if_neg c]
   split <;> simp
theorem X5 {xs : List Nat} {n : Nat} (hl : xs.length ≤ 1000) : CallOk Tryz.prog 89 [.sl 2 (natA .i64 xs) [] false, .int .i64 n] (.bool (xs.contains n)) [] := by
 obtain ⟨L, hL⟩ : ∃ L, xs.length = L := ⟨_, rfl⟩
 rw [hL] at hl
 (refine AB (W := fun _ => false) false AS Tryz.func89 rfl zK zL (AC ?_); generalize hQ : Post Tryz.prog Tryz.f89 _ _ _ _ _ = Q; simp only [stIn, matL, matA, st00])
 simp (disch := omega) only [go_sem, AF, hL]
 refine AM (fun (i : Nat) st => st.fr 0 = .sl 2 (natA .i64 xs) [] false ∧ st.fr 1 = .int .i64 n ∧ st.fr 5 = .int .i64 i ∧ i ≤ L ∧ (xs.take i).contains n = false) (fun i => L - i) 0 ⟨zV, zV, zV, zO, zS⟩ ?_
 rintro i ⟨fr, h, nx⟩ ⟨g0, g1, g5, hi, hno⟩ J hJ
 simp only at g0 g1 g5
 by_cases hin : i < L
 ·obtain ⟨x, hx⟩ := AI (xs := xs) (i := i) zO
  by_cases e : x = n
  ·have hc : xs.contains n = true := by
    rw [List.contains_eq_mem, decide_eq_true_eq, ← e]; exact List.mem_of_getElem? hx
   rw [hc] at hQ
   have hb : ((x : Int) == (n : Int)) = true := by simp [e]
   simp (disch := omega) only [go_sem, g0, g1, g5, AF, hL, DD, hx, hb]
   (repeat (with_reducible refine Or.inr ?_))
   rw [← hQ]
   exact AG (.inl rfl) rfl zV rfl
  ·have hb : ((x : Int) == (n : Int)) = false := by simp; omega
   simp (disch := omega) only [go_sem, g0, g1, g5, AF, hL, DD, hx, hb]
   (repeat (with_reducible refine Or.inr ?_))
   exact hJ (i + 1) _ ⟨(by simp [AA, g0] <;> omega), (by simp [AA, g1] <;> omega), zV, hin, by
    rw [List.take_add_one, hx]
    simp only [Option.toList_some, List.contains_eq_mem, List.mem_append, List.mem_singleton, decide_eq_false_iff_not, not_or] at hno ⊢
    exact ⟨hno, fun h => e h.symm⟩⟩ zO
 ·obtain rfl : i = L := by omega
  rw [List.take_of_length_le zO] at hno
  rw [hno] at hQ
  simp (disch := omega) only [go_sem, g0, g1, g5, AF, hL]
  rw [← hQ]
  exact AG (.inl rfl) rfl zV rfl
theorem X6 {xs : List Nat} {n : Nat} (hl : xs.length ≤ 1000) : CallOk Tryz.prog 90 [.sl 2 (natA .i64 xs) [] false, .int .i64 n] (.sl 2 (natA .i64 (putL xs n)) [] false) [] := by
 obtain ⟨L, hL⟩ : ∃ L, xs.length = L := ⟨_, rfl⟩
 rw [hL] at hl
 (refine AB (W := fun _ => false) false AS Tryz.func90 rfl zK zL (AC ?_); generalize hQ : Post Tryz.prog Tryz.f90 _ _ _ _ _ = Q; simp only [stIn, matL, matA, st00])
 simp (disch := omega) only [go_sem, AF, hL]
 refine AM (fun (⟨i, d, o⟩ : Nat × Bool × List Nat) st => st.fr 0 = .sl 2 (natA .i64 xs) [] false ∧ st.fr 1 = .int .i64 n ∧ st.fr 5 = .ref 0 o.length 0 o.length ∧ st.fr 6 = .bool d ∧ st.fr 7 = .int .i64 i ∧ (∃ e, st.h 0 = ⟨2, natA .i64 o, e, true, true⟩) ∧ i ≤ L ∧ o.length ≤ i + 1 ∧
   (d = false → o = xs.take i ∧ ∀ y ∈ xs.take i, y < n) ∧ (d = true → o = putL (xs.take i) n ∧ ∃ y ∈ xs.take i, ¬ y < n)) (fun (⟨i, _, _⟩ : Nat × Bool × List Nat) => L - i) (0, false, [])
  ⟨zV, zV, zV, zV, zV, ⟨true, by simp [AA, natA]⟩, zO, zS, fun _ => ⟨zS, zS⟩, (fun h => by cases h)⟩ ?_
 rintro ⟨i, d, o⟩ ⟨fr, h, nx⟩ ⟨g0, g1, g5, g6, g7, ⟨e, hm⟩, hi, hol, hf, ht⟩ J hJ
 simp only at g0 g1 g5 g6 g7 hm hf ht
 obtain ⟨m, AS⟩ : ∃ m, o.length = m := ⟨_, rfl⟩
 have hnl : (natA .i64 o).length = m := by rw [AF, AS]
 have reach' : reach = 140737488355328 := rfl
 by_cases hin : i < L
 ·obtain ⟨x, hx⟩ := AI (xs := xs) (i := i) zO
  have htk : xs.take (i + 1) = xs.take i ++ [x] := by rw [List.take_add_one, hx]; rfl
  have keyJ := fun d' o' => hJ (i + 1, d', o')
  clear hJ
  cases d with
  | true =>
   obtain ⟨ho, hex⟩ := ht rfl
   have hsn : natA .i64 o ++ [.int .i64 x] = natA .i64 (o ++ [x]) := Bm
   simp (disch := omega) only [go_sem, g0, g1, g5, g6, g7, hm, AF, hL, DD, hx, AS, hnl, reach, hsn, List.length_cons, List.length_nil]
   (repeat (with_reducible refine Or.inr ?_))
   exact keyJ true (o ++ [x]) _ ⟨(by simp [AA, g0] <;> omega), (by simp [AA, g1] <;> omega), by simp [AA, AS], (by simp [AA, g6] <;> omega), zV, ⟨false, zU⟩, hin, zW, (fun h => by cases h), fun _ => ⟨by rw [htk, JB hex, ho], by
    obtain ⟨y, hy, hyn⟩ := hex
    exact ⟨y, by rw [htk]; exact List.mem_append_left _ hy, hyn⟩⟩⟩ zT
  | false =>
   obtain ⟨ho, hall⟩ := hf rfl
   have hol2 : o.length ≤ i := by rw [ho, List.length_take]; omega
   by_cases c1 : x < n
   ·have hsn : natA .i64 o ++ [.int .i64 x] = natA .i64 (o ++ [x]) := Bm
    have hd : decide ((x : Int) ≥ n) = false := by simp; omega
    simp (disch := omega) only [go_sem, g0, g1, g5, g6, g7, hm, AF, hL, DD, hx, AS, hnl, reach, hsn, hd, List.length_cons, List.length_nil]
    (repeat (with_reducible refine Or.inr ?_))
    exact keyJ false (o ++ [x]) _ ⟨(by simp [AA, g0] <;> omega), (by simp [AA, g1] <;> omega), by simp [AA, AS], (by simp [AA, g6] <;> omega), zV, ⟨false, zU⟩, hin, zW, fun _ => ⟨by rw [htk, ho], fun y hy => by
     rw [htk] at hy
     rcases List.mem_append.1 hy with hy | hy
     ·exact hall y hy
     ·obtain rfl := List.mem_singleton.1 hy; exact c1⟩, (fun h => by cases h)⟩ zT
   ·have hd : decide ((x : Int) ≥ n) = true := by simp; omega
    have hput : putL (xs.take (i + 1)) n = o ++ (if x = n then [x] else [n, x]) := by
     rw [htk, J7 hall, ho]; simp only [putL]; rw [if_neg c1]
    have hexx : ∃ y ∈ xs.take (i + 1), ¬ y < n := ⟨x, by rw [htk]; simp, c1⟩
    by_cases c2 : x = n
    ·rw [if_pos c2] at hput
     have hd2 : decide ((x : Int) > n) = false := by simp; omega
     have hsn : natA .i64 o ++ [.int .i64 x] = natA .i64 (o ++ [x]) := Bm
     simp (disch := omega) only [go_sem, g0, g1, g5, g6, g7, hm, AF, hL, DD, hx, AS, hnl, reach, hsn, hd, hd2, List.length_cons, List.length_nil]
     (repeat (with_reducible refine Or.inr ?_))
     exact keyJ true (o ++ [x]) _ ⟨(by simp [AA, g0] <;> omega), (by simp [AA, g1] <;> omega), by simp [AA, AS], zV, zV, ⟨false, zU⟩, hin, zW, (fun h => by cases h), fun _ => ⟨hput.symm, hexx⟩⟩ zT
    ·rw [if_neg c2] at hput
     have hd2 : decide ((x : Int) > n) = true := by simp; omega
     have hsn : natA .i64 o ++ [.int .i64 n] = natA .i64 (o ++ [n]) := Bm
     have hsn2 : natA .i64 (o ++ [n]) ++ [.int .i64 x] = natA .i64 (o ++ [n, x]) := by rw [Bm]; simp
     have hnl2 : (natA .i64 (o ++ [n])).length = m + 1 := by rw [AF]; simp; omega
     simp (disch := omega) only [go_sem, g0, g1, g5, g6, g7, hm, AF, hL, DD, hx, AS, hnl, reach, hsn, hsn2, hnl2, hd, hd2, List.length_cons, List.length_nil]
     (repeat (with_reducible refine Or.inr ?_))
     exact keyJ true (o ++ [n, x]) _ ⟨(by simp [AA, g0] <;> omega), (by simp [AA, g1] <;> omega), by simp [AA, AS], zV, zV, ⟨false, zU⟩, hin, zW, (fun h => by cases h), fun _ => ⟨hput.symm, hexx⟩⟩ zT
 ·obtain rfl : i = L := by omega
  rw [List.take_of_length_le zO] at hf ht
  cases d with
  | true =>
   obtain ⟨ho, _⟩ := ht rfl
   simp (disch := omega) only [go_sem, g0, g1, g5, g6, g7, AF, hL]
   rw [← hQ]
   exact Bs (id := 0) (n := m) (off := 0) (len := m) (.inl rfl) rfl (by simp [AA, AS]) (by simp [AA, hm]) (by simp [AA, hm, hnl]) (by simp [AA, hm]) zO (Nat.zero_le _) (by simp only [AA, hm, List.drop_zero]; rw [List.take_of_length_le zO, ho]) (Ae _ _)
  | false =>
   obtain ⟨ho, hall⟩ := hf rfl
   have hput : putL xs n = o ++ [n] := by
    have := J7 (ys := xs) (zs := []) hall
    rw [List.append_nil] at this
    rw [this, ho]; rfl
   have hsn : natA .i64 o ++ [.int .i64 n] = natA .i64 (o ++ [n]) := Bm
   have hnl2 : (natA .i64 (o ++ [n])).length = m + 1 := by rw [AF]; simp; omega
   simp (disch := omega) only [go_sem, g0, g1, g5, g6, g7, hm, AF, hL, AS, hnl, reach, hsn, List.length_cons, List.length_nil]
   (repeat (with_reducible refine Or.inr ?_))
   rw [← hQ]
   exact Bs (id := 0) (n := m + 1) (off := 0) (len := m + 1) (.inl rfl) rfl zU zU (by simp [AA, hnl2]) zU zO (Nat.zero_le _) (by simp only [AA, ↓reduceIte, List.drop_zero]; rw [List.take_of_length_le zO, hput]) (Ae _ _)
theorem Uq {xs : List Nat} {n : Nat} (hl : xs.length ≤ 1000) : CW Tryz.prog 89 [.sl 2 (natA .i64 xs) [] false, .int .i64 n] (.bool (xs.contains n)) := cw zK zP zP (X5 hl)
attribute [go_sem] Uq
theorem Ur {xs : List Nat} {n : Nat} (hl : xs.length ≤ 1000) : CW Tryz.prog 90 [.sl 2 (natA .i64 xs) [] false, .int .i64 n] (.sl 2 (natA .i64 (putL xs n)) [] false) := cw zK zP zP (X6 hl)
attribute [go_sem] Ur
theorem Nh {P : Program} {W : FuncId → Bool} {ops : Array Oper} {os : List Oper} {fr : Nat → AV} {h : Nat → Blk} {nx : Nat} {K : St → Prop} {d : Option Tmp} {t tm : Nat} {p : String} {af : Array Edge} {g : FuncId} {args : Array Operand} {ts : Array TypeId}
  (hf : fr tm = .fn (.func g) [] []) (hW : W g = false) : wpos P W ops (⟨d, .call { callee := .value (.tmp tm), args := args, argTypes := ts }, t, p, af, none⟩ :: os) ⟨fr, h, nx⟩ K =
  callW P W g (args.toList.map (evA fr)) ⟨d, ops, os, fr, h, nx, K⟩ .mk := by
 simp only [wpos, wpo, guardA, opK, callW, ValCall]
 have e : St.ev ⟨fr, h, nx⟩ = evA fr := by funext x; rfl
 refine propext ⟨fun hw => ?_, fun hw => ⟨fun _ => ?_, zS⟩⟩
 ·obtain ⟨x, st', ⟨g', first, cap, h1, h2, h3, h4, h5⟩, hk⟩ := hw.1 trivial
  have h1' : AV.fn (.func g) [] [] = AV.fn (.func g') first cap := hf.symm.trans h1
  injection h1' with e1 e2 e3
  injection e1 with e1
  subst e1; subst e2; subst e3
  rw [e] at h3 h5
  exact ⟨h2, x, st', by simpa using h3, fun _ => h4 rfl, fun _ hp h nx => by simpa using h5 rfl (by simpa using hp) h nx, hk⟩
 ·obtain ⟨h2, x, st', h3, h4, h5, hk⟩ := hw
  exact ⟨x, st', ⟨g, [], [], hf, h2, by rw [e]; simpa using h3, fun _ => h4 hW, fun _ hp h nx => by rw [e] at hp ⊢; simpa using h5 hW (by simpa using hp) h nx⟩, hk⟩
mutual
theorem LU {P : Program} {E E' : Env} {h : Nat → Blk} {nx : Nat} (hE : E.nx = nx) (hh : ∀ i, i < nx → h i = E'.h i ∨ (h i).lv = false ∧ (h i).xs.length = (E.h i).xs.length) : ∀ (x : AV) (v0 v : Value), rep P E x v0 → rep P E' x v → rep P ⟨E'.w, E'.I, E'.m, h, nx⟩ x v
 | .undef, _, _, _, _ => by simp [rep]
 | .bool b, _, v, _, k => by simpa [rep] using k
 | .int i n, _, v, _, k => by simpa [rep] using k
 | .str s, _, v, _, k => by simpa [rep] using k
 | .nil, _, v, _, k => by simpa [rep] using k
 | .sl t xs sp ex, v0, v, k0, k => by
  simp only [rep] at k0 k ⊢
  obtain ⟨_, _, _, _, _, _, ws, us', m4, m5, _⟩ := k0
  obtain ⟨a, cap, h1, h2, h3, h7, vs, us, h4, h5, h6⟩ := k
  exact ⟨a, cap, h1, h2, h3, h7, vs, us, CP hE hh xs ws vs m4 h4, CP hE hh sp us' us m5 h5, h6⟩
 | .ref id n off len, v0, v, k0, k => by
  simp only [rep] at k0 k ⊢
  have hlt : id < nx := by rw [← hE]; exact k0.1
  obtain ⟨_, h2, ad, kk, hv, h3⟩ := k
  rcases hh id hlt with e | ⟨e1, e2⟩
  ·rw [e]; exact ⟨hlt, h2, ad, kk, hv, h3⟩
  ·exact ⟨hlt, by rw [e2]; exact k0.2.1, ad, kk, hv, fun hl => by rw [e1] at hl; cases hl⟩
 | .own .., _, _, _, k => by simp [rep] at k
 | .ptr id n i j, v0, v, k0, k => by
  simp only [rep] at k0 k ⊢
  have hlt : id < nx := by rw [← hE]; exact k0.1
  obtain ⟨_, h2, ad, hv, h3⟩ := k
  rcases hh id hlt with e | ⟨e1, e2⟩
  ·rw [e]; exact ⟨hlt, h2, ad, hv, h3⟩
  ·exact ⟨hlt, by rw [e2]; exact k0.2.1, ad, hv, fun hl => by rw [e1] at hl; cases hl⟩
 | .cptr t x j, v0, v, k0, k => by
  simp only [rep] at k0 k ⊢
  obtain ⟨_, _, _, _, u0, _, _, _, m4, _⟩ := k0
  obtain ⟨b, off, c, fz, u, h1, h2, h3, h4, h6, h5⟩ := k
  exact ⟨b, off, c, fz, u, h1, h2, h3, LU hE hh x u0 u m4 h4, h6, h5⟩
 | .fn f first cap, v0, v, k0, k => by
  simp only [rep] at k0 k ⊢
  obtain ⟨ws, us', _, m2, m3⟩ := k0
  obtain ⟨vs, us, h1, h2, h3⟩ := k
  exact ⟨vs, us, h1, CP hE hh first ws vs m2 h2, CP hE hh cap us' us m3 h3⟩
 | .agg cs, v0, v, k0, k => by
  simp only [rep] at k0 k ⊢
  obtain ⟨ws, _, m2⟩ := k0
  obtain ⟨vs, h1, h2⟩ := k
  exact ⟨vs, h1, CP hE hh cs ws vs m2 h2⟩
 | .tup xs, v0, v, k0, k => by
  simp only [rep] at k0 k ⊢
  obtain ⟨ws, _, m2⟩ := k0
  obtain ⟨vs, h1, h2⟩ := k
  exact ⟨vs, h1, CP hE hh xs ws vs m2 h2⟩
theorem CP {P : Program} {E E' : Env} {h : Nat → Blk} {nx : Nat} (hE : E.nx = nx) (hh : ∀ i, i < nx → h i = E'.h i ∨ (h i).lv = false ∧ (h i).xs.length = (E.h i).xs.length) : ∀ (xs : List AV) (vs0 vs : List Value), repL P E xs vs0 → repL P E' xs vs → repL P ⟨E'.w, E'.I, E'.m, h, nx⟩ xs vs
 | [], _, vs, _, k => by simpa [repL] using k
 | x :: xs, vs0, vs, k0, k => by
  simp only [repL] at k0 k ⊢
  obtain ⟨v0, us0, _, m2, m3⟩ := k0
  obtain ⟨v, us, h1, h2, h3⟩ := k
  exact ⟨v, us, h1, LU hE hh x v0 v m2 h2, CP hE hh xs us0 us m3 h3⟩
end
def cutH (h h' : Nat → Blk) (nx : Nat) (eat : List Nat) : Nat → Blk := fun i => if i ∈ eat then { h i with lv := false } else if i < nx then h' i else h i
def PostE (P : Program) (fn : Func) (x : AV) (h' : Nat → Blk) (nx : Nat) (eat : List Nat) (e : Ex) (st : St) : Prop :=
 (match e with | .exit _ => False | _ => True) ∧ resV P st fn.results.toList = some x ∧ (∀ i, i < nx → i ∉ eat → st.h i = h' i) ∧ nx ≤ st.nx
def Stays (P : Program) (x : AV) (h2 : Nat → Blk) (nx : Nat) (eat : List Nat) : Prop :=
 ∀ (E' : Env) (v : Value), (∀ i, i < nx → i ∉ eat → h2 i = E'.h i) → rep P E' x v → rep P ⟨E'.w, E'.I, E'.m, h2, nx⟩ x v
theorem Md {P : Program} {x : AV} {h2 : Nat → Blk} {nx : Nat} {eat : List Nat} (hp : x.pure = true) : Stays P x h2 nx eat := fun E' v _ hr =>
 (show repL P ⟨E'.w, E'.I, E'.m, h2, nx⟩ [x] [v] from BP (E := E') (E' := ⟨E'.w, E'.I, E'.m, h2, nx⟩) (fun b hb => ⟨hb, rfl⟩) [x] [v] (by simp [AV.pureL, hp]) (by simp [repL, hr])) |> fun k => by simpa [repL] using k
theorem Me {P : Program} {r n l : Nat} {b : Bool} {h2 : Nat → Blk} {nx : Nat} {eat : List Nat} (hr : r < nx) (he : r ∉ eat) : Stays P (.tup [.ref r n 0 l, .bool b]) h2 nx eat := fun E' v hh hv => by
 have e := hh r hr he
 simp only [rep, repL] at hv ⊢
 obtain ⟨vs, rfl, u, us, rfl, ⟨h1, h2', h3⟩, k⟩ := hv
 refine ⟨_, rfl, u, us, rfl, ⟨hr, ?_, ?_⟩, k⟩
 ·simp only [e]; exact h2'
 ·simpa only [e] using h3
theorem H5 {P : Program} {E E' : Env} {h h' : Nat → Blk} {nx : Nat} {eat fz : List Nat} (hE : Ok P E) (hE' : Ok P E') (hle : E.Le E') (hgo : Goes P E E') (hh : h = E.h) (hnx : nx = E.nx) (h1 : ∀ i, i < nx → i ∉ eat → E'.h i = h' i)
  (hh' : ∀ i, i < nx → i ∉ eat → h' i = h i ∨ AV.pureL (h' i).xs = true) (hfz : ∀ i ∈ fz, nx ≤ i) :
  E.Le ⟨E'.w, (E'.shut fz).I, E'.m, cutH h h' nx eat, nx⟩ ∧ Ok P ⟨E'.w, (E'.shut fz).I, E'.m, cutH h h' nx eat, nx⟩ ∧ Goes P E ⟨E'.w, (E'.shut fz).I, E'.m, cutH h h' nx eat, nx⟩ ∧
   (∀ i, i < nx → i ∉ eat → cutH h h' nx eat i = E'.h i) ∧ ∀ i, (cutH h h' nx eat i).lv = true → i < nx := by
 obtain ⟨H, hH⟩ : ∃ H, cutH h h' nx eat = H := ⟨_, rfl⟩
 rw [hH]
 have hsame : ∀ i, i < nx → i ∉ eat → H i = E'.h i := fun i hi he => by rw [← hH, cutH, if_neg he, if_pos hi]; exact (h1 i hi he).symm
 have hate : ∀ i, i ∈ eat → (H i).lv = false ∧ (H i).xs = (E.h i).xs ∧ (H i).gr = (E.h i).gr := fun i hi => by rw [← hH, cutH, if_pos hi, hh]; exact ⟨rfl, rfl, rfl⟩
 have hdead : ∀ i, nx ≤ i → (H i).lv = false := fun i hi => by
  by_cases he : i ∈ eat
  ·exact (hate i he).1
  ·rw [← hH, cutH, if_neg he, if_neg zO]
   cases hl : (h i).lv with
   | false => rfl
   | true => have := (hE.blk i (by rw [← hh]; exact hl)).lt; omega
 have hcut : ∀ i, i < nx → H i = E'.h i ∨ (H i).lv = false ∧ (H i).xs.length = (E.h i).xs.length := fun i hi => by
  by_cases he : i ∈ eat
  ·exact .inr ⟨(hate i he).1, by rw [(hate i he).2.1]⟩
  ·exact .inl (hsame i hi he)
 have hlt : ∀ i, (H i).lv = true → i < nx := fun i hl => by
  rcases Nat.lt_or_ge i nx with h | h
  ·exact h
  ·rw [hdead i h] at hl; cases hl
 have hlive : ∀ i, (H i).lv = true → i < nx ∧ i ∉ eat ∧ H i = E'.h i := fun i hl => by
  have h2 : i ∉ eat := fun he => by rw [(hate i he).1] at hl; cases hl
  exact ⟨hlt i hl, h2, hsame i (hlt i hl) h2⟩
 have hnew : ∀ i ∈ fz, (E'.h i).lv = true → E.w.heap.size ≤ (E'.m i).b := fun i hi hl => by
  rcases hgo.locs i hl with ⟨a, _⟩ | ⟨a, _⟩
  ·have := (hE.blk i a).lt
   have := hfz i hi
   omega
  ·exact a
 refine ⟨⟨by rw [hnx]; exact Nat.le_refl _, fun b hb => ⟨.inl (hle.imm b hb).1, (hle.imm b hb).2⟩, fun id hid => ?_, fun id hid n hn k1 k2 => ?_⟩, ⟨fun id hl => ?_, fun i j hi hj e => ?_, fun b hb => ?_, ?_⟩,
  ⟨hgo.os, hgo.tape, hgo.output, hgo.size, hgo.keep, hgo.part, fun id hl => ?_, fun b hb => ?_, by rw [hnx]; exact Nat.le_refl _, fun id hid => ?_⟩, hsame, hlt⟩
 ·by_cases he : id ∈ eat
  ·simp only [(hate id he).2.1]; exact Nat.le_refl _
  ·simp only [hsame id zO he]; exact hle.len id hid
 ·simp only at k1 k2 ⊢
  obtain ⟨a1, a2, a3⟩ := hlive id k1
  rw [a3] at k1 k2 ⊢
  exact hle.prv id hid n hn k1 k2
 ·simp only at hl
  obtain ⟨a1, a2, a3⟩ := hlive id hl
  have hl' : (E'.h id).lv = true := by rw [← a3]; exact hl
  have hB := hE'.blk id hl'
  obtain ⟨c, ws, g1, g2, g3, g4⟩ := hB.at_
  refine ⟨a1, by simp only [a3]; exact hB.gr, by simp only [a3]; exact hB.ex, by simp only [a3]; exact hB.le, by simp only [a3]; exact hB.cl, ?_, c, ws, by simp only [a3]; exact g1, ?_, by simp only [a3]; exact g3, by simp only [a3]; exact g4⟩
  ·rintro (hd | ⟨i, hi, k1, k2⟩)
   ·exact hB.dark hd
   ·have := hE'.inj i id k1 hl' k2
    have := hfz i hi
    omega
  simp only [a3]
  rcases hh' id a1 a2 with e | e
  ·have e1 : E'.h id = E.h id := by rw [← a3, ← hH, cutH, if_neg a2, if_pos a1, e, hh]
   have hlE : (E.h id).lv = true := by rw [← e1]; exact hl'
   obtain ⟨c0, ws0, _, g02, _, _⟩ := (hE.blk id hlE).at_
   rw [e1] at g2 ⊢
   exact CP (E' := E'.shut fz) hnx.symm hcut _ ws0 ws g02 (Ax (E := E') (E' := E'.shut fz) ⟨Nat.le_refl _, fun b hb => ⟨.inl hb, rfl⟩, fun _ _ => Nat.le_refl _, fun _ _ _ _ h1 h2 => ⟨h1, h2, rfl, rfl⟩⟩ _ _ g2)
  ·have hp : AV.pureL (E'.h id).xs = true := by rw [← a3, ← hH, cutH, if_neg a2, if_pos a1]; exact e
   exact BP (E := E') (E' := ⟨E'.w, (E'.shut fz).I, E'.m, H, nx⟩) (fun b hb => ⟨.inl hb, rfl⟩) _ _ hp g2
 ·simp only at hi hj e
  obtain ⟨_, _, a3⟩ := hlive i hi
  obtain ⟨_, _, b3⟩ := hlive j hj
  exact hE'.inj i j (by rw [← a3]; exact hi) (by rw [← b3]; exact hj) e
 ·rcases hb with hb | ⟨i, hi, k1, k2⟩
  ·exact hE'.imm b hb
  ·obtain ⟨c, ws, g1, _⟩ := (hE'.blk i k1).at_
   rw [← k2]; exact BC g1
 ·exact hE'.tab.step fun b hb => ⟨.inl hb, rfl⟩
 ·simp only at hl ⊢
  obtain ⟨_, _, a3⟩ := hlive id hl
  have := hgo.locs id (by rw [← a3]; exact hl)
  simpa only [Env.lim, a3] using this
 ·rcases hb with hb | ⟨i, hi, k1, k2⟩
  ·exact hgo.dark b hb
  ·exact .inr (.inl (by rw [← k2]; exact hnew i hi k1))
 ·by_cases he : id ∈ eat
  ·exact (hate id he).2.2
  ·simp only [hsame id zO he]; exact hgo.grs id hid
theorem Mf {P : Program} {E : Env} {args : List AV} {h : Nat → Blk} {nx nt : Nat} {vs : List Value} (hE : Ok P E) (hh : h = E.h) (hnx : nx = E.nx) (has : repL P E args vs) :
  Rel P E ⟨fun i => args.getD i .undef, h, nx⟩ { tmps := vs.toArray ++ Array.replicate (nt - vs.toArray.size) undef, defers := [] } := by
 have hargl : args.length = vs.length := (AO has).symm
 refine ⟨hE, hh, hnx, fun t => ?_⟩
 by_cases ht : t < args.length
 ·have h1 : args[t]? = some (args[t]'(by omega)) := List.getElem?_eq_getElem zO
  obtain ⟨v, hv, hr⟩ := BI has t _ h1
  simp only [List.getD_eq_getElem?_getD, h1]
  rw [Array.getD_eq_getD_getElem?, Array.getElem?_append_left zW]
  have : vs.toArray[t]? = some v := by simpa using hv
  rw [this]; exact hr
 ·simp only [List.getD_eq_getElem?_getD]
  rw [List.getElem?_eq_none zO]
  simp [rep]
section
variable {P : Program} {W : WP} {f : FuncId} {fn : Func} {c : Code} {args : List AV} {x : AV} {fr : Nat → AV} {h h' : Nat → Blk} {nx : Nat} {eat : List Nat}
theorem IU (hm : P.follows .mixedOrders = true) (hf : P.funcs[f]? = some fn) (hb : fn.body = some c)
  (hok : codeOk W fn.ntmps c = true) (hn : args.length ≤ fn.ntmps) (hx : Stays P x (cutH h h' nx eat) nx eat) (hh' : ∀ i, i < nx → i ∉ eat → h' i = h i ∨ AV.pureL (h' i).xs = true)
  (hw : wpc P W c ⟨fun i => args.getD i .undef, h, nx⟩ (PostE P fn x h' nx eat)) : InOk P ⟨fr, h, nx⟩ f args x ⟨fr, cutH h h' nx eat, nx⟩ := by
 refine ⟨rfl, fun E vs hE hh hnx has => calls_of_wp hf hb ?_⟩
 simp only at hh hnx
 have hsize : (vs.toArray ++ Array.replicate (fn.ntmps - vs.toArray.size) undef).size = fn.ntmps := by have := AO has; simp; omega
 refine wp_mono (BW hm c hok _ _ _ E hw (Mf hE hh hnx has) hsize rfl) fun e a' w' hq => ?_
 obtain ⟨y, st', E', rfl, ⟨hy, hv, h1, h2⟩, rfl, hR', hn', hd', hle, hgo⟩ := hq
 obtain ⟨u, hres, hru⟩ := DW hR' hv
 obtain ⟨k1, k2, k3, k4, _⟩ := H5 (eat := eat) (fz := []) (h' := h') hE hR'.ok hle hgo hh hnx (fun i hi he => by rw [← hR'.h]; exact h1 i hi he) hh' zS
 have hru2 : rep P ⟨E'.w, (E'.shut []).I, E'.m, cutH h h' nx eat, nx⟩ x u := by
  have := hx E' u k4 hru
  have e : (E'.shut []).I = E'.I := by funext b; simp [Env.shut]
  rw [e]; exact this
 have hend : bodyPost P fn (fun e w' => ∃ v E', e = .returned v ∧ E'.w = w' ∧ E'.h = cutH h h' nx eat ∧ E'.nx = nx ∧ E.Le E' ∧ Ok P E' ∧ Goes P E E' ∧ rep P E' x v) .ret a' E'.w :=
  ⟨hd', u, hres, u, ⟨E'.w, (E'.shut []).I, E'.m, cutH h h' nx eat, nx⟩, rfl, rfl, rfl, rfl, k1, k2, k3, hru2⟩
 cases y with
 | normal => exact hend
 | ret => exact hend
 | exit i => exact hy.elim
def PostS (P : Program) (fn : Func) (x : AV) (h' : Nat → Blk) (nx : Nat) (eat : List Nat) (e : Ex) (st : St) : Prop :=
 (match e with | .exit _ => False | _ => True) ∧ (∃ v ids, resV P st fn.results.toList = some v ∧ snapA st 8 v = some (x, ids) ∧ ∀ i ∈ ids, nx ≤ i) ∧ (∀ i, i < nx → i ∉ eat → st.h i = h' i)
theorem IV (hm : P.follows .mixedOrders = true) (hf : P.funcs[f]? = some fn) (hb : fn.body = some c)
  (hok : codeOk W fn.ntmps c = true) (hn : args.length ≤ fn.ntmps) (hh' : ∀ i, i < nx → i ∉ eat → h' i = h i ∨ AV.pureL (h' i).xs = true)
  (hw : wpc P W c ⟨fun i => args.getD i .undef, h, nx⟩ (PostS P fn x h' nx eat)) : InOk P ⟨fr, h, nx⟩ f args x ⟨fr, cutH h h' nx eat, nx⟩ := by
 refine ⟨rfl, fun E vs hE hh hnx has => calls_of_wp hf hb ?_⟩
 simp only at hh hnx
 have hsize : (vs.toArray ++ Array.replicate (fn.ntmps - vs.toArray.size) undef).size = fn.ntmps := by have := AO has; simp; omega
 refine wp_mono (BW hm c hok _ _ _ E hw (Mf hE hh hnx has) hsize rfl) fun e a' w' hq => ?_
 obtain ⟨y, st', E', rfl, ⟨hy, ⟨v, ids, hv, hsn, hids⟩, h1⟩, rfl, hR', hn', hd', hle, hgo⟩ := hq
 obtain ⟨u, hres, hru⟩ := DW hR' hv
 obtain ⟨s1, s2, s3⟩ := C1 hR'.ok hR'.h 8 v x ids u hsn hru
 obtain ⟨k1, k2, k3, k4, _⟩ := H5 (eat := eat) (fz := ids) (h' := h') hE hR'.ok hle hgo hh hnx (fun i hi he => by rw [← hR'.h]; exact h1 i hi he) hh' hids
 have hru2 : rep P ⟨E'.w, (E'.shut ids).I, E'.m, cutH h h' nx eat, nx⟩ x u :=
  Bj (E := E'.shut ids) (E' := ⟨E'.w, (E'.shut ids).I, E'.m, cutH h h' nx eat, nx⟩) (fun b hb => ⟨hb, rfl⟩) x u s1 s2
 have hend : bodyPost P fn (fun e w' => ∃ v E', e = .returned v ∧ E'.w = w' ∧ E'.h = cutH h h' nx eat ∧ E'.nx = nx ∧ E.Le E' ∧ Ok P E' ∧ Goes P E E' ∧ rep P E' x v) .ret a' E'.w :=
  ⟨hd', u, hres, u, ⟨E'.w, (E'.shut ids).I, E'.m, cutH h h' nx eat, nx⟩, rfl, rfl, rfl, rfl, k1, k2, k3, hru2⟩
 cases y with
 | normal => exact hend
 | ret => exact hend
 | exit i => exact hy.elim
def PostN (P : Program) (fn : Func) (r : AV) (h' : Nat → Blk) (nx : Nat) (eat : List Nat) (e : Ex) (st : St) : Prop :=
 (match e with | .exit _ => False | _ => True) ∧ (∃ v ids, resV P st fn.results.toList = some v ∧ ownA st 8 v = some (r, ids) ∧ ids.Nodup ∧ ∀ i ∈ ids, nx ≤ i) ∧ (∀ i, i < nx → i ∉ eat → st.h i = h' i)
theorem FK {r : AV} (hm : P.follows .mixedOrders = true) (hf : P.funcs[f]? = some fn) (hb : fn.body = some c)
  (hok : codeOk W fn.ntmps c = true) (hn : args.length ≤ fn.ntmps) (hh' : ∀ i, i < nx → i ∉ eat → h' i = h i ∨ AV.pureL (h' i).xs = true)
  (hw : wpc P W c ⟨fun i => args.getD i .undef, h, nx⟩ (PostN P fn r h' nx eat)) : InOk P ⟨fr, h, nx⟩ f args (matA true r ⟨fr, cutH h h' nx eat, nx⟩).1 (matA true r ⟨fr, cutH h h' nx eat, nx⟩).2 := by
 refine ⟨G5 true r _, fun E vs hE hh hnx has => calls_of_wp hf hb ?_⟩
 simp only at hh hnx
 have hsize : (vs.toArray ++ Array.replicate (fn.ntmps - vs.toArray.size) undef).size = fn.ntmps := by have := AO has; simp; omega
 refine wp_mono (BW hm c hok _ _ _ E hw (Mf hE hh hnx has) hsize rfl) fun e a' w' hq => ?_
 obtain ⟨y, st', E', rfl, ⟨hy, ⟨v, ids, hv, how, hnd, hids⟩, h1⟩, rfl, hR', hn', hd', hle, hgo⟩ := hq
 obtain ⟨u, hres, hru⟩ := DW hR' hv
 obtain ⟨L, s1, s2, s3, s4⟩ := FQ hR'.ok hR'.h 8 v r ids u how hru
 obtain ⟨k1, k2, k3, k4, k5⟩ := H5 (eat := eat) (fz := []) (h' := h') hE hR'.ok hle hgo hh hnx (fun i hi he => by rw [← hR'.h]; exact h1 i hi he) hh' zS
 have eI : (E'.shut []).I = E'.I := by funext b; simp [Env.shut]
 rw [eI] at k1 k2 k3
 have hnew : ∀ o ∈ L, E.w.heap.size ≤ o.l.b ∧ o.l.base = 0 := fun o ho => by
  obtain ⟨a, ha, e1, _, _⟩ := s4 o ho
  obtain ⟨b1, b2⟩ := s2 a ha
  rw [e1]
  refine ⟨?_, (hR'.ok.blk a b1).gr b2⟩
  rcases hgo.locs a b1 with ⟨c1, _⟩ | ⟨c1, _⟩
  ·have := (hE.blk a c1).lt
   have := hids a ha
   omega
  ·exact c1
 have hsep : Sep ⟨E'.w, E'.I, E'.m, cutH h h' nx eat, nx⟩ L := by
  refine ⟨?_, fun o ho id hid e => ?_⟩
  ·have e1 : L.map (·.l.b) = ids.map fun a => (E'.m a).b := by
    have := congrArg (List.map Loc.b) s3
    simpa [List.map_map, Function.comp_def] using this
   rw [e1]
   exact List.pairwise_map.2 (List.Pairwise.imp_of_mem (fun ha hb hne e => hne (hR'.ok.inj _ _ (s2 _ ha).1 (s2 _ hb).1 e)) hnd)
  ·obtain ⟨a, ha, e1, _, _⟩ := s4 o ho
   have hlt := k5 id hid
   simp only at hid e
   have he : id ∉ eat := fun he => by rw [cutH, if_pos he] at hid; cases hid
   have hl : (E'.h id).lv = true := by rw [← k4 id hlt he]; exact hid
   have := hR'.ok.inj id a hl (s2 a ha).1 (by rw [← e1]; exact e)
   have := hids a ha
   omega
 obtain ⟨m', M, r1, f1, _⟩ := FP (g := true) r u L ⟨fr, cutH h h' nx eat, nx⟩ ⟨E'.w, E'.I, E'.m, cutH h h' nx eat, nx⟩ k2 rfl rfl (GC (E := E') (E' := ⟨E'.w, E'.I, E'.m, cutH h h' nx eat, nx⟩) rfl rfl _ _ _ s1) hsep (fun _ o ho => (hnew o ho).2)
 have hgo2 := Goes.mat k2 k3 M (fun o ho => (hnew o ho).1) hnx
 have hend : bodyPost P fn (fun e w' => ∃ v E', e = .returned v ∧ E'.w = w' ∧ E'.h = (matA true r ⟨fr, cutH h h' nx eat, nx⟩).2.h ∧ E'.nx = (matA true r ⟨fr, cutH h h' nx eat, nx⟩).2.nx ∧ E.Le E' ∧ Ok P E' ∧ Goes P E E' ∧ rep P E' (matA true r ⟨fr, cutH h h' nx eat, nx⟩).1 v) .ret a' E'.w :=
  ⟨hd', u, hres, u, ⟨E'.w, E'.I, m', (matA true r ⟨fr, cutH h h' nx eat, nx⟩).2.h, (matA true r ⟨fr, cutH h h' nx eat, nx⟩).2.nx⟩, rfl, rfl, rfl, rfl, k1.trans M.le, M.ok, hgo2, r1⟩
 cases y with
 | normal => exact hend
 | ret => exact hend
 | exit i => exact hy.elim
end
theorem JC {h : Nat → Blk} {nx : Nat} : cutH h h nx [] = h := by funext i; simp [cutH]
theorem JD {P : Program} {fn : Func} {t u : Tmp} {x y : AV} {st : St} {e : Ex} {h' : Nat → Blk} {nx : Nat} {eat : List Nat} (he : e = .ret ∨ e = .normal) (hr : fn.results.toList = [.tmp t, .tmp u]) (hv : st.fr t = x) (hw : st.fr u = y) (h1 : ∀ i, i < nx → i ∉ eat → st.h i = h' i) (h2 : nx ≤ st.nx) : PostE P fn (.tup [x, y]) h' nx eat e st :=
 ⟨by rcases he with rfl | rfl <;> trivial, by rw [hr]; simp [resV, resL, resA, hv, hw], h1, h2⟩
/-! ### Rows: lists of lists in memory of one's own -/
def refsL (rid : Nat → Nat) (r c : Nat) : List AV := (List.range r).map fun i => AV.ref (rid i) c 0 c
theorem CQ {rid : Nat → Nat} {r c : Nat} : (refsL rid r c).length = r := by simp [refsL]
theorem Ba {rid : Nat → Nat} {r c i : Nat} (h : i < r) : (refsL rid r c)[i]? = some (.ref (rid i) c 0 c) := by simp [refsL, h]
theorem FB {rid : Nat → Nat} {r c i k : Nat} : (refsL rid r c).set i (.ref k c 0 c) = refsL (fun j => if j = i then k else rid j) r c := by
 apply List.ext_getElem
 ·simp [refsL]
 ·intro j h1 h2
  simp only [refsL, List.getElem_set, List.getElem_map, List.getElem_range]
  by_cases e : i = j
  ·rw [if_pos e, if_pos e.symm]
  ·rw [if_neg e, if_neg (fun h => e h.symm)]
theorem FZ {rid : Nat → Nat} {r c : Nat} : refsL rid (r + 1) c = refsL rid r c ++ [.ref (rid r) c 0 c] := by simp [refsL, List.range_succ]
theorem LV {rid rid' : Nat → Nat} {r c : Nat} (h : ∀ i, i < r → rid i = rid' i) : refsL rid r c = refsL rid' r c := List.map_congr_left fun i hi => by rw [h i (List.mem_range.1 hi)]
def rowsO (t : Nat) (e : Bool) (r : Nat) (row : Nat → List AV) : List AV := (List.range r).map fun i => AV.own t (row i) [] e
theorem PA {t : Nat} {e : Bool} {r : Nat} {row : Nat → List AV} : (rowsO t e r row).length = r := by simp [rowsO]
theorem H6 {t : Nat} {e : Bool} {r : Nat} {row : Nat → List AV} : rowsO t e (r + 1) row = rowsO t e r row ++ [.own t (row r) [] e] := by simp [rowsO, List.range_succ]
def rowsH (h : Nat → Blk) (nx : Nat) (t : Nat) (e g : Bool) (r : Nat) (row : Nat → List AV) : Nat → Blk := fun i => if nx ≤ i ∧ i < nx + r then ⟨t, row (i - nx), e, g, true⟩ else h i
theorem Gs (g : Bool) : ∀ (xs ys : List AV) (st : St), matL g (xs ++ ys) st = ((matL g xs st).1 ++ (matL g ys (matL g xs st).2).1, (matL g ys (matL g xs st).2).2)
 | [], ys, st => rfl
 | x :: xs, ys, st => by simp only [List.cons_append, matL]; rw [Gs g xs ys]
theorem JE (g : Bool) {t : Nat} {e : Bool} {row : Nat → List AV} {c : Nat} {fr : Nat → AV} {h : Nat → Blk} {nx : Nat} : ∀ (r : Nat), (∀ i, i < r → (row i).length = c ∧ AV.pureL (row i) = true) →
  matL g (rowsO t e r row) ⟨fr, h, nx⟩ = (refsL (fun i => nx + i) r c, ⟨fr, rowsH h nx t e g r row, nx + r⟩)
 | 0, _ => by
  have : rowsH h nx t e g 0 row = h := by funext i; unfold rowsH; rw [if_neg zO]
  simp [rowsO, refsL, matL, this]
 | r + 1, hr => by
  have ih := JE g (t := t) (e := e) (row := row) (c := c) (fr := fr) (h := h) (nx := nx) r (fun i hi => hr i zO)
  obtain ⟨k1, k2⟩ := hr r zO
  rw [H6, Gs, ih]
  simp only [matL, matA, Am _ _ _ k2, St.new, List.append_nil, List.length_nil, Nat.add_zero, k1, FZ]
  congr 2
  funext i
  simp only [upd, rowsH]
  by_cases e1 : i = nx + r
  ·subst e1
   rw [if_pos rfl, if_pos zO]
   simp
  ·rw [if_neg e1]
   by_cases e2 : nx ≤ i ∧ i < nx + r
   ·rw [if_pos e2, if_pos zO]
   ·rw [if_neg e2, if_neg zO]
theorem PB (g : Bool) {T t : Nat} {e e2 : Bool} {row : Nat → List AV} {r c : Nat} {fr : Nat → AV} {h : Nat → Blk} {nx : Nat} (hr : ∀ i, i < r → (row i).length = c ∧ AV.pureL (row i) = true) :
  matA g (.own T (rowsO t e r row) [] e2) ⟨fr, h, nx⟩ = (.ref (nx + r) r 0 r, ⟨fr, upd (rowsH h nx t e g r row) (nx + r) ⟨T, refsL (fun i => nx + i) r c, e2, g, true⟩, nx + r + 1⟩) := by
 simp only [matA, JE g r hr, matL, St.new, List.append_nil, List.length_nil, Nat.add_zero, PA]
theorem Cz {f : AV → Option (AV × List Nat)} : ∀ {xs ys : List AV} {a b : List AV} {i j : List Nat}, snapL f xs = some (a, i) → snapL f ys = some (b, j) → snapL f (xs ++ ys) = some (a ++ b, i ++ j)
 | [], ys, a, b, i, j, h, k => by simp only [snapL, Option.some.injEq, Prod.mk.injEq] at h; obtain ⟨rfl, rfl⟩ := h; simpa using k
 | x :: xs, ys, a, b, i, j, h, k => by
  obtain ⟨y, i1, ys1, is1, h1, h2, h3⟩ := CJ h
  simp only [Prod.mk.injEq] at h3
  obtain ⟨rfl, rfl⟩ := h3
  simp [snapL, h1, Cz h2 k]
theorem RT {st : St} {d id c : Nat} {t : Nat} {e : Bool} {xs : List AV} (hi : st.h id = ⟨t, xs, e, true, true⟩) (hl : xs.length = c) (hp : AV.pureL xs = true) : ownA st (d + 1) (.ref id c 0 c) = some (.own t xs [] e, [id]) := by
 have htk : xs.take c = xs := List.take_of_length_le zO
 have hdr : xs.drop c = [] := List.drop_eq_nil_of_le zO
 rw [C2, hi]
 simp only [hl, htk, hdr, BG hp]
 cases e <;> simp [snapL]
theorem JF {st : St} {d t c : Nat} {e : Bool} {row : Nat → List AV} {rid : Nat → Nat} : ∀ (r : Nat), (∀ i, i < r → st.h (rid i) = ⟨t, row i, e, true, true⟩ ∧ (row i).length = c ∧ AV.pureL (row i) = true) →
  snapL (ownA st (d + 1)) (refsL rid r c) = some (rowsO t e r row, (List.range r).map rid)
 | 0, _ => rfl
 | r + 1, hr => by
  obtain ⟨h1, h2, h3⟩ := hr r zO
  have ih := JF (st := st) (d := d) (t := t) (c := c) (e := e) (row := row) (rid := rid) r (fun i hi => hr i zO)
  rw [FZ, H6, List.range_succ, List.map_append]
  exact Cz ih (by simp [snapL, RT h1 h2 h3])
theorem PC {st : St} {d o T t r c : Nat} {e e2 : Bool} {row : Nat → List AV} {rid : Nat → Nat} (ho : st.h o = ⟨T, refsL rid r c, e2, true, true⟩) (hr : ∀ i, i < r → st.h (rid i) = ⟨t, row i, e, true, true⟩ ∧ (row i).length = c ∧ AV.pureL (row i) = true) :
  ownA st (d + 2) (.ref o r 0 r) = some (.own T (rowsO t e r row) [] e2, o :: (List.range r).map rid) := by
 have htk : (refsL rid r c).take r = refsL rid r c := List.take_of_length_le (by rw [CQ]; exact Nat.le_refl _)
 have hdr : (refsL rid r c).drop r = [] := List.drop_eq_nil_of_le (by rw [CQ]; exact Nat.le_refl _)
 rw [C2, ho]
 simp only [CQ, htk, hdr, JF r hr]
 cases e2 <;> simp [snapL]

section
variable {P : Program} {W : WP} {f : FuncId} {fn : Func} {c : Code} {args : List AV} {x : AV} {fr : Nat → AV} {h : Nat → Blk} {nx : Nat}
theorem Ct (hm : P.follows .mixedOrders = true) (hf : P.funcs[f]? = some fn) (hb : fn.body = some c) (hok : codeOk W fn.ntmps c = true) (hn : args.length ≤ fn.ntmps)
  (hw : wpc P W c ⟨fun i => args.getD i .undef, h, nx⟩ (PostS P fn x h nx [])) : InOk P ⟨fr, h, nx⟩ f args x ⟨fr, h, nx⟩ := by
 have := IV (fr := fr) (h' := h) (eat := []) hm hf hb hok hn (fun _ _ _ => .inl rfl) hw
 rwa [JC] at this
end
section
variable {P : Program} {fn : Func} {h' : Nat → Blk} {nx : Nat} {eat : List Nat} {st : St} {e : Ex}
theorem DO {t : Tmp} {r : AV} (he : e = .ret ∨ e = .normal) (hr : fn.results.toList = [.tmp t]) (hv : st.fr t = r) (hp : r.pure = true) (hh : ∀ i, i < nx → i ∉ eat → st.h i = h' i) : PostS P fn r h' nx eat e st :=
 ⟨by rcases he with rfl | rfl <;> trivial, ⟨r, [], by rw [hr]; simp [resV, resL, resA, hv], AL hp, zS⟩, hh⟩
theorem Gt {t : Tmp} {T id : Nat} {x r : AV} (he : e = .ret ∨ e = .normal) (hr : fn.results.toList = [.cell t T]) (hok : okT P T = true) (hv : st.fr t = .ptr id 1 0 0) (hlv : (st.h id).lv = true) (hx : (st.h id).xs = [x])
  (hl : ldA P T x 0 = some r) (hp : r.pure = true) (hh : ∀ i, i < nx → i ∉ eat → st.h i = h' i) : PostS P fn r h' nx eat e st :=
 ⟨by rcases he with rfl | rfl <;> trivial, ⟨r, [], by rw [hr]; simp [resV, resL, resA, hv, hok, loadA, hlv, hx, hl], AL hp, zS⟩, hh⟩
theorem B6 {t : Tmp} {id n off len T : Nat} {r : List AV} (he : e = .ret ∨ e = .normal) (hr : fn.results.toList = [.tmp t]) (hv : st.fr t = .ref id n off len)
  (hlv : (st.h id).lv = true) (hn : (st.h id).xs.length = n) (ht : (st.h id).t = T) (hl : off + len ≤ n) (hid : nx ≤ id) (hxs : ((st.h id).xs.drop off).take len = r) (hp : AV.pureL r = true) (hh : ∀ i, i < nx → i ∉ eat → st.h i = h' i) :
  PostS P fn (.sl T r [] false) h' nx eat e st :=
 ⟨by rcases he with rfl | rfl <;> trivial, ⟨.ref id n off len, [id], by rw [hr]; simp [resV, resL, resA, hv], Av hlv hn ht hl hxs hp, by simpa using hid⟩, hh⟩
theorem FL {t u : Tmp} {id n off len T : Nat} {r : List AV} {b : Bool} (he : e = .ret ∨ e = .normal) (hr : fn.results.toList = [.tmp t, .tmp u]) (hv : st.fr t = .ref id n off len) (hw : st.fr u = .bool b)
  (hlv : (st.h id).lv = true) (hn : (st.h id).xs.length = n) (ht : (st.h id).t = T) (hl : off + len ≤ n) (hid : nx ≤ id) (hxs : ((st.h id).xs.drop off).take len = r) (hp : AV.pureL r = true) (hh : ∀ i, i < nx → i ∉ eat → st.h i = h' i) :
  PostS P fn (.tup [.sl T r [] false, .bool b]) h' nx eat e st := by
 refine ⟨by rcases he with rfl | rfl <;> trivial, ⟨.tup [.ref id n off len, .bool b], [id], by rw [hr]; simp [resV, resL, resA, hv, hw], ?_, by simpa using hid⟩, hh⟩
 have h1 := Av (d := 6) hlv hn ht hl hxs hp
 have h2 : snapA st 7 (.bool b) = some (.bool b, []) := AL rfl
 have : snapA st (7 + 1) (.tup [.ref id n off len, .bool b]) = some (.tup [.sl T r [] false, .bool b], [id]) := by
  rw [snapA]
  simp [AV.pure, AV.pureL, snapL, h1, h2]
 exact this
end
section
variable {P : Program} {W : WP} {f : FuncId} {fn : Func} {c : Code} {args : List AV} {fr : Nat → AV} {h h' : Nat → Blk} {nx : Nat} {eat : List Nat} {st : St} {e : Ex}
theorem PD {t u : Tmp} {r s : AV} (he : e = .ret ∨ e = .normal) (hr : fn.results.toList = [.tmp t, .tmp u]) (hv : st.fr t = r) (hw : st.fr u = s) (hp : r.pure = true) (hq : s.pure = true) (hh : ∀ i, i < nx → i ∉ eat → st.h i = h' i) : PostN P fn (.tup [r, s]) h' nx eat e st :=
 ⟨by rcases he with rfl | rfl <;> trivial, ⟨.tup [r, s], [], by rw [hr]; simp [resV, resL, resA, hv, hw], by rw [ownA]; simp [AV.pure, AV.pureL, hp, hq], zS, zS⟩, hh⟩
theorem Mg {t u : Tmp} {id n T : Nat} {r : List AV} {ex b : Bool} (he : e = .ret ∨ e = .normal) (hr : fn.results.toList = [.tmp t, .tmp u]) (hv : st.fr t = .ref id n 0 n) (hw : st.fr u = .bool b)
  (hb : st.h id = ⟨T, r, ex, true, true⟩) (hn : r.length = n) (hid : nx ≤ id) (hp : AV.pureL r = true) (hh : ∀ i, i < nx → i ∉ eat → st.h i = h' i) : PostN P fn (.tup [.own T r [] ex, .bool b]) h' nx eat e st := by
 refine ⟨by rcases he with rfl | rfl <;> trivial, ⟨.tup [.ref id n 0 n, .bool b], [id], by rw [hr]; simp [resV, resL, resA, hv, hw], ?_, zS, by simpa using hid⟩, hh⟩
 have h1 : ownA st 7 (.ref id n 0 n) = some (.own T r [] ex, [id]) := by
  rw [C2, hb, if_pos ⟨rfl, hn, rfl, Nat.le_refl _, rfl⟩, List.take_of_length_le zT, List.drop_eq_nil_of_le zT, BG hp]
  cases ex <;> simp [snapL]
 have h2 : ownA st 7 (.bool b) = some (.bool b, []) := by simp [ownA, AV.pure]
 rw [ownA]
 simp [AV.pure, AV.pureL, snapL, h1, h2]
end
def rwS (rs : List (List Rat)) : List AV := rs.map fun r => .sl 85 (ratM 700 r) [] false
def rwI (rs : List (List Rat)) : List AV := rs.map fun r => .sl 76 (ratL 700 r) [] false
theorem Fz {rs : List (List Rat)} : (rwS rs).length = rs.length := by simp [rwS]
theorem FC {rs : List (List Rat)} : (rwI rs).length = rs.length := by simp [rwI]
theorem Mh {rs : List (List Rat)} {i : Nat} {r : List Rat} (h : rs[i]? = some r) : (rwS rs)[i]? = some (.sl 85 (ratM 700 r) [] false) := by simp [rwS, h]
theorem J8 {rs : List (List Rat)} {i : Nat} {r : List Rat} (h : rs[i]? = some r) : (rwI rs)[i]? = some (.sl 76 (ratL 700 r) [] false) := by simp [rwI, h]
theorem RU {rs : List (List Rat)} {r : List Rat} : rwS rs ++ [.sl 85 (ratM 700 r) [] false] = rwS (rs ++ [r]) := by simp [rwS]
theorem RV {rs : List (List Rat)} {r : List Rat} : rwI rs ++ [.sl 76 (ratL 700 r) [] false] = rwI (rs ++ [r]) := by simp [rwI]
theorem LW {rs : List (List Rat)} : AV.pureL (rwS rs) = true := by
 induction rs with
 | nil => rfl
 | cons r rs ih => simpa [rwS, AV.pureL, AV.pure] using ih
theorem F0 {rs : List (List Rat)} : AV.pureL (rwI rs) = true := by
 induction rs with
 | nil => rfl
 | cons r rs ih => simpa [rwI, AV.pureL, AV.pure] using ih
def lvM (n : Nat) : Nat := 64 + (64 + n * (700 + 1)) + 1
theorem Mi {fr : Nat → AV} {h : Nat → Blk} {nx id o n i : Nat} {av sv : AV} {rs : List (List Rat)} {r : List Rat} {e : Bool} (hb : h id = ⟨41, [.agg [av, sv, .ref o n 0 n]], true, false, true⟩) (hid : id < nx)
  (ho : h o = ⟨38, rwS rs, e, true, true⟩) (hon : o < nx) (hrs : rs.length = n) (hr : rs[i]? = some r) (hrn : r.length = n) (hn : n ≤ 1000) :
  InOk Tryz.prog ⟨fr, h, nx⟩ 88 [.ptr id 1 0 0, .int .i64 i] (rS (lvM n) (1 - sumL r)) ⟨fr, h, nx⟩ := by
 refine Ct (W := ⟨fun _ => false, fun _ => none⟩) AS Tryz.func88 rfl zK zL (AC ?_)
 generalize hQ : PostS Tryz.prog Tryz.f88 _ _ _ _ = Q
 have hi : i < n := by rw [← hrs]; exact (List.getElem?_eq_some_iff.1 hr).1
 have ati := Mh hr
 have hol : (rwS rs).length = n := by rw [Fz, hrs]
 have n1 : (id = nx) = False := by simp; omega
 have n2 : (o = nx) = False := by simp; omega
 have hT := H0 (m := 700) (qs := r) zO zO
 rw [hrn] at hT
 simp (disch := omega) only [go_sem, hb, ho, ati, hol, n1, n2, hT]
 (repeat (with_reducible refine Or.inr ?_))
 rw [← hQ]
 exact Gt (id := nx) (x := rS (lvM n) (1 - sumL r)) (.inl rfl) rfl BU zV zU (by simp [AA, lvM]) B5 zP (fun k hk _ => by simp (disch := omega) only [AA, if_neg])
theorem WN {fr : Nat → AV} {h : Nat → Blk} {nx id n : Nat} {e g : Bool} (hb : h id = ⟨2, [], e, g, true⟩) : InOk Tryz.prog ⟨fr, h, nx⟩ 89 [.ref id 0 0 0, .int .i64 n] (.bool false) ⟨fr, h, nx⟩ := by
 refine Ct (W := ⟨fun _ => false, fun _ => none⟩) AS Tryz.func89 rfl zK zL (AC ?_)
 generalize hQ : PostS Tryz.prog Tryz.f89 _ _ _ _ = Q
 simp (disch := omega) only [go_sem, hb, List.length_nil]
 refine AM (fun (_ : Nat) st => st.fr 0 = .ref id 0 0 0 ∧ st.fr 5 = .int .i64 0 ∧ st.h = h) (fun i => i) 0 ⟨zV, zV, rfl⟩ ?_
 rintro i ⟨fr, h1, nx⟩ ⟨g0, g5, eh⟩ J hJ
 simp only at g0 g5 eh
 subst eh
 simp (disch := omega) only [go_sem, g0, g5, hb, List.length_nil]
 rw [← hQ]
 exact DO (.inl rfl) rfl zV rfl (fun _ _ _ => rfl)
theorem WO {fr : Nat → AV} {h : Nat → Blk} {nx id n : Nat} {e g : Bool} (hb : h id = ⟨2, [], e, g, true⟩) (hid : id < nx) : InOk Tryz.prog ⟨fr, h, nx⟩ 90 [.ref id 0 0 0, .int .i64 n] (.sl 2 (natA .i64 [n]) [] false) ⟨fr, h, nx⟩ := by
 refine Ct (W := ⟨fun _ => false, fun _ => none⟩) AS Tryz.func90 rfl zK zL (AC ?_)
 generalize hQ : PostS Tryz.prog Tryz.f90 _ _ _ _ = Q
 have n1 : (id = nx) = False := by simp; omega
 simp (disch := omega) only [go_sem, hb, List.length_nil]
 refine AM (fun (_ : Nat) st => st.fr 0 = .ref id 0 0 0 ∧ st.fr 1 = .int .i64 n ∧ st.fr 5 = .ref nx 0 0 0 ∧ st.fr 6 = .bool false ∧ st.fr 7 = .int .i64 0 ∧ st.h = upd h nx ⟨2, [], true, true, true⟩ ∧ st.nx = nx + 1) (fun i => i) 0 ⟨zV, zV, zV, zV, zV, rfl, rfl⟩ ?_
 rintro i ⟨fr, h1, nx1⟩ ⟨g0, g1, g5, g6, g7, eh, enx⟩ J hJ
 simp only at g0 g1 g5 g6 g7 eh enx
 subst eh enx
 simp (disch := omega) only [go_sem, g0, g1, g5, g6, g7, hb, n1, reach, List.length_nil, List.length_cons, List.nil_append]
 rw [← hQ]
 exact B6 (id := nx) (n := 1) (off := 0) (len := 1) (.inl rfl) rfl zV zU zU zU zO zO (by simp [AA, natA]) (Ae _ _) (fun i hi _ => by simp (disch := omega) only [AA, if_neg])
def lvL (rs : List (List Rat)) (i : Nat) : Bool := !decide (1 - sumL (rs.getD i []) = 0)
def nzL (rs : List (List Rat)) (i j : Nat) : Bool := !decide ((rs.getD i []).getD j 0 = 0)
def EndV (v : AV) (h : Nat → Blk) (k n : Nat) (S : Nat → Bool) : Prop := v = .sl 2 (natA .i64 (setL S n)) [] false ∨ (v = .ref k 0 0 0 ∧ setL S n = [])
set_option maxHeartbeats 4000000 in
theorem PE {fr : Nat → AV} {h : Nat → Blk} {nx id o n : Nat} {av : AV} {srv : List Rat} {rs : List (List Rat)} {e : Bool} (hb : h id = ⟨41, [.agg [av, lS 700 srv, .ref o n 0 n]], true, false, true⟩) (hid : id < nx)
  (ho : h o = ⟨38, rwS rs, e, true, true⟩) (hon : o < nx) (hrs : rs.length = n) (hs : srv.length = n) (hrn : ∀ (i : Nat) (r : List Rat), rs[i]? = some r → r.length = n) (hn : n ≤ 6) :
  InOk Tryz.prog ⟨fr, h, nx⟩ 55 [.ptr id 1 0 0] (.bool (endsB (lvL rs) (nzL rs) n)) ⟨fr, h, nx⟩ := by
 refine Ct (W := ⟨fun _ => false, fun _ => none⟩) AS Tryz.func55 rfl zK zL (AC ?_)
 generalize hQ : PostS Tryz.prog Tryz.f55 _ _ _ _ = Q
 have hol : (rwS rs).length = n := by rw [Fz, hrs]
 have n1 : (id = nx) = False := by simp; omega
 have n2 : (o = nx) = False := by simp; omega
 obtain ⟨H, hH⟩ : ∃ H, upd h nx ⟨2, [], true, true, true⟩ = H := ⟨_, rfl⟩
 have hbH : H id = ⟨41, [.agg [av, lS 700 srv, .ref o n 0 n]], true, false, true⟩ := by rw [← hH, AA, if_neg zO]; exact hb
 have hoH : H o = ⟨38, rwS rs, e, true, true⟩ := by rw [← hH, AA, if_neg zO]; exact ho
 have hkH : H nx = ⟨2, [], true, true, true⟩ := by rw [← hH, AA, if_pos rfl]
 have hoi : ∀ i, i < nx → H i = h i := fun i hi => by rw [← hH, AA, if_neg zO]
 simp (disch := omega) only [go_sem, hb, n1, hs, hH, hbH]
 refine AM (fun (t : Nat) st => st.fr 0 = .ptr id 1 0 0 ∧ EndV (st.fr 3) st.h nx n (eAll (lvL rs) (nzL rs) n t) ∧ st.fr 12 = .int .i64 n ∧ st.fr 13 = .int .i64 t ∧ st.h = H ∧ st.nx = nx + 1 ∧ t ≤ n) (fun t => n - t) 0
  ⟨zV, .inr ⟨zV, by simp [setL, eAll]⟩, zV, zV, rfl, rfl, zO⟩ ?_
 rintro t ⟨fr1, h1, nx1⟩ ⟨g0, g3, g12, g13, eh, enx, ht⟩ J hJ
 simp only at g0 g3 g12 g13 eh enx
 subst eh enx
 by_cases hin : t < n
 ·have keyJ := hJ (t + 1)
  clear hJ
  have hA : eAll (lvL rs) (nzL rs) n (t + 1) = eRow (lvL rs) (nzL rs) n (eAll (lvL rs) (nzL rs) n t) n := rfl
  rw [hA] at keyJ
  generalize eAll (lvL rs) (nzL rs) n t = S0 at *
  simp (disch := omega) only [go_sem, g0, g12, g13, hbH, hs]
  refine AM (fun (i : Nat) st => st.fr 0 = .ptr id 1 0 0 ∧ EndV (st.fr 3) st.h nx n (eRow (lvL rs) (nzL rs) n S0 i) ∧ st.fr 12 = .int .i64 n ∧ st.fr 13 = .int .i64 t ∧ st.fr 19 = .int .i64 n ∧ st.fr 20 = .int .i64 i ∧ st.h = h1 ∧ st.nx = nx + 1 ∧ i ≤ n) (fun i => n - i) 0
   ⟨(by simp [AA, g0] <;> omega), by simpa [AA, eRow] using g3, (by simp [AA, g12] <;> omega), (by simp [AA, g13] <;> omega), zV, zV, rfl, rfl, zO⟩ ?_
  clear g3
  rintro i ⟨fr2, h2, nx2⟩ ⟨s0, s3, s12, s13, s19, s20, eh, enx, hi⟩ J2 hJ2
  simp only at s0 s3 s12 s13 s19 s20 eh enx
  subst eh enx
  by_cases hin2 : i < n
  ·have keyJ2 := hJ2 (i + 1)
   clear hJ2
   have hR : eRow (lvL rs) (nzL rs) n S0 (i + 1) = eStep (lvL rs) (nzL rs) n (eRow (lvL rs) (nzL rs) n S0 i) i := rfl
   rw [hR] at keyJ2
   generalize eRow (lvL rs) (nzL rs) n S0 i = S at *
   obtain ⟨r, hr⟩ := AI (xs := rs) (i := i) zO
   have hgr : rs.getD i [] = r := by rw [List.getD_eq_getElem?_getD, hr]; rfl
   have hrl := hrn i r hr
   have hlvi : lvL rs i = !decide (1 - sumL r = 0) := by rw [lvL, hgr]
   simp (disch := omega) only [go_sem, s0, s12, s13, s19, s20]
   refine Aj (Mi (i := i) (r := r) hbH zO hoH zO hrs hr hrl zO) zK (.inr ⟨rfl, rfl⟩) ?_
   have hlM : lvM n ≤ 100000 := by unfold lvM; omega
   simp (disch := omega) only [go_sem, s0, s12, s13, s19, s20, hbH, hs]
   (repeat (with_reducible refine Or.inr ?_))
   rw [← hlvi]
   refine AM (fun (j : Nat) st => st.fr 0 = .ptr id 1 0 0 ∧ st.fr 3 = fr2 3 ∧ st.fr 12 = .int .i64 n ∧ st.fr 13 = .int .i64 t ∧ st.fr 19 = .int .i64 n ∧ st.fr 20 = .int .i64 i ∧ st.fr 4 = .int .i64 i ∧ st.fr 5 = .bool (lvL rs i || eAny (nzL rs) S i j) ∧ st.fr 32 = .int .i64 n ∧ st.fr 33 = .int .i64 j ∧ st.h = h2 ∧ st.nx = nx + 1 ∧ j ≤ n) (fun j => n - j) 0
    ⟨(by simp [AA, s0] <;> omega), zV, (by simp [AA, s12] <;> omega), (by simp [AA, s13] <;> omega), (by simp [AA, s19] <;> omega), (by simp [AA, s20] <;> omega), zV, by simp [AA, JA], zV, zV, rfl, rfl, zO⟩ ?_
   rintro j ⟨fr3, h3, nx3⟩ ⟨r0, r3, r12, r13, r19, r20, r4, r5, r32, r33, eh, enx, hj⟩ J3 hJ3
   simp only at r0 r3 r12 r13 r19 r20 r4 r5 r32 r33 eh enx
   subst eh enx
   by_cases hin3 : j < n
   ·have key3 := hJ3 (j + 1)
    clear hJ3
    obtain ⟨q, hq⟩ := AI (xs := r) (i := j) zO
    have ati := Mh hr
    have hrM : (ratM 700 r).length = n := by rw [Aq, hrl]
    have hnz : nzL rs i j = !decide (q = 0) := by rw [nzL, hgr, Fy hq]
    have hZ := FA (m := 700) (a := q) zO
    have hb1' := @I9 (nzL rs) S i j
    rw [hnz] at hb1'
    rw [hb1'] at key3
    generalize eAny (nzL rs) S i j = b at *
    generalize lvL rs i = l at *
    cases hlb : (l || b) with
    | true =>
     have hb1 : (l || (b || (!decide (q = 0) && S j))) = true := by cases l <;> cases b <;> simp_all
     rw [hlb] at r5
     simp (disch := omega) only [go_sem, r0, r12, r13, r19, r20, r4, r5, r32, r33, hbH, hoH, hol, ati, hrM, hq, reach]
     (repeat (with_reducible refine Or.inr ?_))
     exact key3 _ ⟨(by simp [AA, r0] <;> omega), by simp [AA, r3, s3], (by simp [AA, r12] <;> omega), (by simp [AA, r13] <;> omega), (by simp [AA, r19] <;> omega), (by simp [AA, r20] <;> omega), (by simp [AA, r4] <;> omega), by rw [hb1]; simp [AA], (by simp [AA, r32] <;> omega), zV, rfl, rfl, hin3⟩ zO
    | false =>
     obtain ⟨rfl, rfl⟩ : l = false ∧ b = false := by cases l <;> cases b <;> simp_all
     rw [hlb] at r5
     rcases s3 with s3 | ⟨s3, hse⟩
     ·have hH1 := Uq (xs := setL S n) (n := j) (by have := Hz (S := S) (n := n); omega)
      rw [LS hin3] at hH1
      rw [s3] at r3
      cases hSj : S j with
      | false =>
       rw [hSj] at hH1
       have hb1 : (false || (false || (!decide (q = 0) && S j))) = false := by simp [hSj]
       simp (disch := omega) only [go_sem, r0, r12, r13, r19, r20, r4, r5, r32, r33, hbH, hoH, hol, ati, hrM, hq, reach, r3, hH1]
       (repeat (with_reducible refine Or.inr ?_))
       exact key3 _ ⟨(by simp [AA, r0] <;> omega), by simp [AA, r3, s3], (by simp [AA, r12] <;> omega), (by simp [AA, r13] <;> omega), (by simp [AA, r19] <;> omega), (by simp [AA, r20] <;> omega), (by simp [AA, r4] <;> omega), by rw [hb1]; simp [AA], (by simp [AA, r32] <;> omega), zV, rfl, rfl, hin3⟩ zO
      | true =>
       rw [hSj] at hH1
       by_cases hq0 : q = 0
       ·rw [decide_eq_true hq0] at hZ
        have hb1 : (false || (false || (!decide (q = 0) && S j))) = false := by simp [hq0]
        simp (disch := omega) only [go_sem, r0, r12, r13, r19, r20, r4, r5, r32, r33, hbH, hoH, hol, ati, hrM, hq, reach, r3, hH1, hZ]
        (repeat (with_reducible refine Or.inr ?_))
        exact key3 _ ⟨(by simp [AA, r0] <;> omega), by simp [AA, r3, s3], (by simp [AA, r12] <;> omega), (by simp [AA, r13] <;> omega), (by simp [AA, r19] <;> omega), (by simp [AA, r20] <;> omega), (by simp [AA, r4] <;> omega), by rw [hb1]; simp [AA], (by simp [AA, r32] <;> omega), zV, rfl, rfl, hin3⟩ zO
       ·rw [decide_eq_false hq0] at hZ
        have hb1 : (false || (false || (!decide (q = 0) && S j))) = true := by simp [hq0, hSj]
        simp (disch := omega) only [go_sem, r0, r12, r13, r19, r20, r4, r5, r32, r33, hbH, hoH, hol, ati, hrM, hq, reach, r3, hH1, hZ]
        (repeat (with_reducible refine Or.inr ?_))
        exact key3 _ ⟨(by simp [AA, r0] <;> omega), by simp [AA, r3, s3], (by simp [AA, r12] <;> omega), (by simp [AA, r13] <;> omega), (by simp [AA, r19] <;> omega), (by simp [AA, r20] <;> omega), (by simp [AA, r4] <;> omega), by rw [hb1]; simp [AA], (by simp [AA, r32] <;> omega), zV, rfl, rfl, hin3⟩ zO
     ·have hSj : S j = false := by have := LS (S := S) hin3; rw [hse] at this; exact this.symm
      rw [s3] at r3
      have hb1 : (false || (false || (!decide (q = 0) && S j))) = false := by simp [hSj]
      simp (disch := omega) only [go_sem, r0, r12, r13, r19, r20, r4, r5, r32, r33, hbH, hoH, hol, ati, hrM, hq, reach, r3]
      refine Aj (WN (e := true) (g := true) hkH) zK (.inr ⟨rfl, rfl⟩) ?_
      simp (disch := omega) only [go_sem, r0, r12, r13, r19, r20, r4, r5, r32, r33, hbH, hoH, hol, ati, hrM, hq, reach, r3]
      exact key3 _ ⟨(by simp [AA, r0] <;> omega), by simp [AA, r3, s3], (by simp [AA, r12] <;> omega), (by simp [AA, r13] <;> omega), (by simp [AA, r19] <;> omega), (by simp [AA, r20] <;> omega), (by simp [AA, r4] <;> omega), by rw [hb1]; simp [AA], (by simp [AA, r32] <;> omega), zV, rfl, rfl, hin3⟩ zO
   ·obtain rfl : j = n := by omega
    have hT : ∀ k, k ≠ i → eStep (lvL rs) (nzL rs) j S i k = S k := fun k hk => by unfold eStep; rw [if_neg hk]
    have hTi : eStep (lvL rs) (nzL rs) j S i i = (S i || lvL rs i || eAny (nzL rs) S i j) := by unfold eStep; rw [if_pos rfl]
    generalize eStep (lvL rs) (nzL rs) j S i = T at *
    generalize eAny (nzL rs) S i j = b at *
    generalize lvL rs i = l at *
    clear hJ3
    cases hlb : (l || b) with
    | true =>
     have hTt : T i = true := by rw [hTi]; cases S i <;> cases l <;> cases b <;> simp_all
     have hput := RM (S := S) (T := T) hin2 hTt hT
     rw [hlb] at r5
     rcases s3 with s3 | ⟨s3, hse⟩
     ·have hP := Ur (xs := setL S j) (n := i) (by have := Hz (S := S) (n := j); omega)
      rw [hput] at hP
      rw [s3] at r3
      simp (disch := omega) only [go_sem, r0, r3, r12, r13, r19, r20, r4, r5, r32, r33, hP]
      (repeat (with_reducible refine Or.inr ?_))
      exact keyJ2 _ ⟨(by simp [AA, r0] <;> omega), .inl zV, (by simp [AA, r12] <;> omega), (by simp [AA, r13] <;> omega), (by simp [AA, r19] <;> omega), zV, rfl, rfl, hin2⟩ zO
     ·rw [hse] at hput
      have hp1 : putL [] i = [i] := rfl
      rw [hp1] at hput
      rw [s3] at r3
      simp (disch := omega) only [go_sem, r0, r3, r12, r13, r19, r20, r4, r5, r32, r33]
      refine Aj (WO (e := true) (g := true) hkH zO) zK (.inr ⟨rfl, rfl⟩) ?_
      simp (disch := omega) only [go_sem, r0, r3, r12, r13, r19, r20, r4, r5, r32, r33]
      exact keyJ2 _ ⟨(by simp [AA, r0] <;> omega), .inl (by simp [AA, hput]), (by simp [AA, r12] <;> omega), (by simp [AA, r13] <;> omega), (by simp [AA, r19] <;> omega), zV, rfl, rfl, hin2⟩ zO
    | false =>
     have hTe : T = S := by
      funext k
      by_cases hk : k = i
      ·subst hk; rw [hTi]; cases S k <;> cases l <;> cases b <;> simp_all
      ·exact hT k hk
     rw [hTe] at keyJ2
     rw [hlb] at r5
     simp (disch := omega) only [go_sem, r0, r12, r13, r19, r20, r4, r5, r32, r33]
     exact keyJ2 _ ⟨(by simp [AA, r0] <;> omega), by simpa [AA, r3] using s3, (by simp [AA, r12] <;> omega), (by simp [AA, r13] <;> omega), (by simp [AA, r19] <;> omega), zV, rfl, rfl, hin2⟩ zO
  ·obtain rfl : i = n := by omega
   simp (disch := omega) only [go_sem, s0, s12, s13, s19, s20]
   exact keyJ _ ⟨(by simp [AA, s0] <;> omega), by simpa [AA] using s3, (by simp [AA, s12] <;> omega), zV, rfl, rfl, hin⟩ zO
 ·obtain rfl : t = n := by omega
  have hfin : endsB (lvL rs) (nzL rs) t = decide ((setL (eAll (lvL rs) (nzL rs) t t) t).length = t) := by rw [RN]; rfl
  rw [hfin] at hQ
  have hsl := Hz (S := eAll (lvL rs) (nzL rs) t t) (n := t)
  rcases g3 with g3 | ⟨g3, hse⟩
  ·generalize setL (eAll (lvL rs) (nzL rs) t t) t = sl at *
   have hx : (((sl.length : Nat) : Int) == (t : Int)) = decide (sl.length = t) := by
    by_cases c : sl.length = t <;> simp [c] <;> omega
   simp (disch := omega) only [go_sem, g0, g3, g12, g13, hbH, hs, AF, hx]
   rw [← hQ]
   exact DO (.inl rfl) rfl zV rfl (fun i hi _ => by simp only; exact hoi i hi)
  ·rw [hse] at hQ
   have hx : ((0 : Int) == (t : Int)) = decide (([] : List Nat).length = t) := by
    by_cases c : 0 = t <;> simp [c] <;> omega
   simp (disch := omega) only [go_sem, g0, g3, g12, g13, hbH, hs, hkH, List.length_nil, hx]
   rw [← hQ]
   exact DO (.inl rfl) rfl zV rfl (fun i hi _ => by simp only; exact hoi i hi)
def posAll (qs : List Rat) : Bool := qs.all fun q => decide (0 < q)
theorem H7 {qs : List Rat} (hl : qs.length ≤ 1000) : CW Tryz.prog 51 [lS 700 qs] (.bool (posAll qs)) := by
 refine cw zK zP zP ?_
 obtain ⟨L, hL⟩ : ∃ n, qs.length = n := ⟨_, rfl⟩
 rw [hL] at hl
 (refine AB (W := fun _ => false) false AS Tryz.func51 rfl zK zL (AC ?_); generalize hQ : Post Tryz.prog Tryz.f51 _ _ _ _ _ = Q; simp only [stIn, matL, matA, st00])
 simp (disch := omega) only [go_sem, hL]
 refine AM (fun (i : Nat) st => st.fr 0 = lS 700 qs ∧ st.fr 5 = .int .i64 L ∧ st.fr 6 = .int .i64 i ∧ i ≤ L ∧ posAll (qs.take i) = true) (fun i => L - i) 0 ⟨zV, zV, zV, zO, rfl⟩ ?_
 rintro i ⟨fr, h, nx⟩ ⟨g0, g5, g6, hi, hp⟩ J hJ
 simp only at g0 g5 g6
 by_cases hin : i < L
 ·obtain ⟨q, hq⟩ := AI (xs := qs) (i := i) zO
  have hZ := FA (m := 700) (a := q) zO
  have hN := MW (m := 700) (a := q) zO
  have hbad : ¬ 0 < q → posAll qs = false := fun hn => by
   unfold posAll; rw [List.all_eq_false]; exact ⟨q, List.mem_of_getElem? hq, by simpa using hn⟩
  by_cases h0 : q = 0
  ·rw [decide_eq_true h0] at hZ
   rw [hbad (by rw [h0]; decide)] at hQ
   simp (disch := omega) only [go_sem, g0, g5, g6, hL, hq, hZ]
   (repeat (with_reducible refine Or.inr ?_))
   rw [← hQ]
   exact AG (.inl rfl) rfl zV rfl
  ·rw [decide_eq_false h0] at hZ
   by_cases h1 : q < 0
   ·rw [decide_eq_true h1] at hN
    rw [hbad (Rat.not_lt.2 (Rat.le_of_lt h1))] at hQ
    simp (disch := omega) only [go_sem, g0, g5, g6, hL, hq, hZ, hN]
    (repeat (with_reducible refine Or.inr ?_))
    rw [← hQ]
    exact AG (.inl rfl) rfl zV rfl
   ·rw [decide_eq_false h1] at hN
    have hpos : 0 < q := by grind
    simp (disch := omega) only [go_sem, g0, g5, g6, hL, hq, hZ, hN]
    (repeat (with_reducible refine Or.inr ?_))
    exact hJ (i + 1) _ ⟨(by simp [AA, g0] <;> omega), (by simp [AA, g5] <;> omega), zV, hin, by
     unfold posAll at hp ⊢
     rw [List.take_add_one, hq, List.all_append, hp]; simpa using hpos⟩ zO
 ·obtain rfl : i = L := by omega
  rw [List.take_of_length_le zO] at hp
  rw [hp] at hQ
  simp (disch := omega) only [go_sem, g0, g5, g6]
  rw [← hQ]
  exact AG (.inl rfl) rfl zV rfl
theorem LX : ∀ (xs : List (List UInt8)), xs.mapM posR = match xs.mapM parseR with | some s => if posAll s = true then some s else none | none => none
 | [] => by simp [posAll]
 | x :: xs => by
  have ih := LX xs
  rw [List.mapM_cons, List.mapM_cons, ih]
  unfold posR
  cases parseR x with
  | none => rfl
  | some q =>
   simp only [Option.bind_eq_bind, Option.bind_some]
   cases xs.mapM parseR with
   | none => by_cases h : 0 < q <;> simp [h]
   | some s =>
    by_cases h : 0 < q <;> by_cases h2 : posAll s = true <;> simp_all [posAll]
    all_goals (split <;> rfl)
abbrev Ntw.av (m : Ntw) : AV := .agg [.sl 9 (strA m.arr) [] false, .sl 9 (strA m.srv) [] false, .sl 22 (rowsT m.rts) [] false]
def Ntw.small (m : Ntw) : Prop := textsOk m.arr ∧ textsOk m.srv ∧ m.rts.length ≤ 1000000 ∧ ∀ r ∈ m.rts, textsOk r
abbrev NR.sv (x : NR) : AV := .agg [lS 700 x.arr, lS 700 x.srv, .sl 38 (rwS x.rts) [] false]
def netS (m : Ntw) : AV := match netQ m with
 | some x => .tup [x.sv, .bool (endsB (lvL x.rts) (nzL x.rts) m.srv.length)]
 | none => .tup [.agg [.nil, .nil, .nil], .bool false]
attribute [go_sem] H7
section
variable {P : Program} {W : FuncId → Bool} {d : Option Tmp} {ops : Array Oper} {os : List Oper} {fr : Nat → AV} {h : Nat → Blk} {nx : Nat} {K : St → Prop} {t : TokC ⟨d, ops, os, fr, h, nx, K⟩} {g : FuncId} {al : List AV}
theorem Dd {C : St → AV → St → Prop} {r : AV} (hc : CallOk P g al r []) (hg : callable P g = true) (hp : AV.pureL al = true) (hW : W g = true) (hm : ∀ st : St, ∃ x st', matA true r st = (x, st') ∧ st'.fr = st.fr ∧ C st x st')
  (hk : ∀ x h' nx', C ⟨fr, h, nx⟩ x ⟨fr, h', nx'⟩ → wpos P W ops os (St.put ⟨fr, h', nx'⟩ d x) K) : callW P W g al ⟨d, ops, os, fr, h, nx, K⟩ t := by
 obtain ⟨x, ⟨fr', h', nx'⟩, m1, m2, m3⟩ := hm ⟨fr, h, nx⟩
 simp only at m2
 subst m2
 exact Tz hc hg hp hW m1 (hk x h' nx' m3)
end
def rowOf (x : Txs) : Row := (x, spareL x.length)
theorem Us (x : Txs) (b : Bool) (hx : x.length ≤ 1000000) : CallOk Tryz.prog 25 [.sl 9 (strA x) [] false, .bool b] (ownP b (rowOf x)) [] := by
 unfold ownP
 by_cases hn : rowNil b (rowOf x)
 ·rw [if_pos hn]
  obtain ⟨rfl, h2⟩ := hn
  have : x = [] := h2
  subst this
  exact NK
 ·rw [if_neg hn]
  refine VY x b ?_ hx
  cases b with
  | false => exact .inl rfl
  | true => exact .inr fun h => hn ⟨rfl, h⟩
theorem PF : CallOk Tryz.prog 26 [.sl 22 (rowsT []) [] false, .bool true] .nil [] := by
 (refine AB (W := fun g => g == 25) false AS Tryz.func26 rfl zK zL (AC ?_); generalize hQ : Post Tryz.prog Tryz.f26 _ _ _ _ _ = Q; simp only [stIn, matL, matA, st00])
 simp (disch := omega) only [go_sem, AN, List.length_nil]
 rw [← hQ]
 exact AG (.inl rfl) rfl zV rfl
theorem WQ (rs : List Txs) (b : Bool) (hn : rs.length ≤ 1000000) (hr : ∀ r ∈ rs, r.length ≤ 1000000) : CallOk Tryz.prog 26 [.sl 22 (rowsT rs) [] false, .bool b] (ownSS b (rowsP rs) (roomB rs.length)) [] := by
 unfold ownSS
 by_cases hq : nestNil b (rowsP rs)
 ·rw [if_pos hq]
  obtain ⟨rfl, h2⟩ := hq
  have : rs = [] := by simpa [rowsP] using h2
  subst this
  exact PF
 ·rw [if_neg hq]
  refine WB rs b ?_ hn hr
  cases b with
  | false => exact .inl rfl
  | true => exact .inr fun h => hq ⟨rfl, by rw [h]; rfl⟩
theorem Mj (e : AV) : AV.cells e = [e] → (match e with | .agg cs => cs | v => [v]) = [e] := fun h => h
theorem RowsN.one1 {h : Nat → Blk} {b : Bool} {hi lo : Nat} {p : Row} {e : AV} (H : RowsN h b hi lo [p] [e]) : AV.el Tryz.prog 22 e = true ∧ AV.cells e = [e] ∧ e.one = true := by
 unfold RowsN at H
 split at H
 ·rw [H.1]; exact ⟨LN, rfl, rfl⟩
 ·obtain ⟨id, _, _, he, _⟩ := H; rw [he]; exact ⟨LO, rfl, rfl⟩
theorem NestN.one1 {h : Nat → Blk} {b : Bool} {hi lo k : Nat} {rs : List Row} {e : AV} (H : NestN h b hi lo rs k e) : AV.el Tryz.prog 23 e = true ∧ AV.cells e = [e] ∧ e.one = true := by
 unfold NestN at H
 split at H
 ·rw [H]; exact ⟨I7, rfl, rfl⟩
 ·obtain ⟨o, _, _, _, he, _⟩ := H; rw [he]; exact ⟨I8, rfl, rfl⟩
def ownNet (b : Bool) (m : Ntw) : AV := .agg [ownP b (rowOf m.arr), ownP b (rowOf m.srv), ownSS b (rowsP m.rts) (roomB m.rts.length)]
def NetN (h : Nat → Blk) (b : Bool) (hi lo : Nat) (m : Ntw) (e : AV) : Prop :=
 ∃ e1 e2 e3 m1, e = .agg [e1, e2, e3] ∧ lo ≤ m1 ∧ m1 ≤ hi ∧ RowsN h b m1 lo [rowOf m.arr, rowOf m.srv] [e1, e2] ∧ NestN h b hi m1 (rowsP m.rts) (roomB m.rts.length) e3
theorem F1 {b : Bool} {m : Ntw} (st : St) : ∃ x st', matA true (ownNet b m) st = (x, st') ∧ st'.fr = st.fr ∧ (st.nx ≤ st'.nx ∧ (∀ i, i < st.nx → st'.h i = st.h i) ∧ NetN st'.h b st'.nx st.nx m x) := by
 obtain ⟨es, s1, a1, a2, a3, a4, a5⟩ := Ej (b := b) [rowOf m.arr, rowOf m.srv] st
 have hl := a5.len
 obtain ⟨e1, e2, rfl⟩ : ∃ e1 e2, es = [e1, e2] := by
  match es, hl with
  | [e1, e2], _ => exact ⟨e1, e2, rfl⟩
 obtain ⟨e3, s3, c1, c2, c3, c4, c5⟩ := Nf (b := b) (rs := rowsP m.rts) (k := roomB m.rts.length) s1
 refine ⟨.agg [e1, e2, e3], s3, ?_, by rw [c2, a2], zO, fun i hi => by rw [c4 i zO, a4 i hi], e1, e2, e3, s1.nx, rfl, a3, c3, a5.keep (Nat.le_refl _) (fun i _ h => c4 i h), c5⟩
 rw [ownNet, matA]
 rw [List.map_cons, List.map_cons, List.map_nil] at a1
 simp only [matL] at a1 ⊢
 simp only [Prod.mk.injEq, List.cons.injEq, and_true] at a1
 obtain ⟨⟨b1, b2⟩, b3⟩ := a1
 rw [b1, b2, b3, c1]
theorem RW {st : St} {d : Nat} {cs cs' : List AV} {ids : List Nat} (h : snapL (ownA st d) cs = some (cs', ids)) : ownA st (d + 1) (.agg cs) = some (.agg cs', ids) := by
 by_cases hp : (AV.agg cs).pure = true
 ·have hp' : AV.pureL cs = true := by simpa [AV.pure] using hp
  rw [BG hp'] at h
  cases h
  exact Ew hp
 ·rw [ownA]; simp [hp, h]
theorem PG {st : St} {d : Nat} {cs cs' : List AV} {ids : List Nat} (h : snapL (snapA st d) cs = some (cs', ids)) : snapA st (d + 1) (.agg cs) = some (.agg cs', ids) := by
 by_cases hp : (AV.agg cs).pure = true
 ·have hp' : AV.pureL cs = true := by simpa [AV.pure] using hp
  rw [Cj hp'] at h
  cases h
  exact AL hp
 ·rw [snapA]; simp [hp, h]
theorem NestN.shape {h : Nat → Blk} {b : Bool} {hi lo k : Nat} {rs : List Row} {e : AV} (H : NestN h b hi lo rs k e) : e = .nil ∨ ∃ a b c, e = .ref a b 0 c := by
 unfold NestN at H
 split at H
 ·exact .inl H
 ·obtain ⟨o, _, _, _, he, _⟩ := H; exact .inr ⟨_, _, _, he⟩
theorem NetN.own {st : St} {b : Bool} {hi lo : Nat} {m : Ntw} {e : AV} (H : NetN st.h b hi lo m e) : ∃ ids, ownA st 8 e = some (ownNet b m, ids) ∧ ids.Nodup ∧ ∀ i ∈ ids, lo ≤ i ∧ i < hi := by
 obtain ⟨e1, e2, e3, m1, rfl, k1, k2, k3, k4⟩ := H
 obtain ⟨i1, p1, p2, p3⟩ := RowsN.own (st := st) (d := 6) k3
 obtain ⟨i3, q1, q2, q3⟩ := NestN.own (st := st) (d := 5) k4
 refine ⟨i1 ++ i3, ?_, List.nodup_append.2 ⟨p2, q2, fun a ha b hb e => by have := (p3 a ha).2; have := (q3 b hb).1; omega⟩, fun i hi => ?_⟩
 ·refine RW ?_
  have := Cz p1 (show snapL (ownA st 7) [e3] = some ([ownSS b (rowsP m.rts) (roomB m.rts.length)], i3) by simp [snapL, q1])
  exact this
 ·rcases List.mem_append.1 hi with hi | hi
  ·have := p3 i hi; omega
  ·have := q3 i hi; omega
theorem NetN.snap {st : St} {b : Bool} {hi lo : Nat} {m : Ntw} {e : AV} (H : NetN st.h b hi lo m e) : ∃ ids, snapA st 8 e = some (.agg [snpP b (rowOf m.arr), snpP b (rowOf m.srv), snpSS b (rowsP m.rts)], ids) := by
 obtain ⟨e1, e2, e3, m1, rfl, k1, k2, k3, k4⟩ := H
 obtain ⟨i1, p1⟩ := RowsN.snap (st := st) (d := 6) k3
 obtain ⟨i3, q1⟩ := NestN.snap (st := st) (d := 5) k4
 have := Cz p1 (show snapL (snapA st 7) [e3] = some ([snpSS b (rowsP m.rts)], i3) by simp [snapL, q1])
 exact ⟨i1 ++ i3, PG this⟩
theorem NetN.keep {h h' : Nat → Blk} {b : Bool} {hi hi' lo : Nat} {m : Ntw} {e : AV} (H : NetN h b hi lo m e) (h1 : ∀ i, lo ≤ i → i < hi → h' i = h i) (h2 : hi ≤ hi') : NetN h' b hi' lo m e := by
 obtain ⟨e1, e2, e3, m1, he, k1, k2, k3, k4⟩ := H
 exact ⟨e1, e2, e3, m1, he, k1, zO, k3.keep (Nat.le_refl _) (fun i a c => h1 i a zO), k4.keep (fun i a c => h1 i zO c) h2⟩
theorem RX {P : Program} {fn : Func} {n0 : Nat} {fl b : Bool} {t : Tmp} {T id hi lo : Nat} {x : AV} {m : Ntw} {st : St} {e : Ex} (he : e = .ret ∨ e = .normal) (hr : fn.results.toList = [.cell t T]) (hok : okT P T = true) (hv : st.fr t = .ptr id 1 0 0) (hlv : (st.h id).lv = true) (hx : (st.h id).xs = [x]) (hl : ldA P T x 0 = some x)
  (HN : NetN st.h b hi lo m x) : Post P fn n0 fl true (ownNet b m) [] e st := by
 obtain ⟨ids, z1, z2, _⟩ := HN.own
 refine ⟨by rcases he with rfl | rfl <;> trivial, x, by rw [hr]; simp [resV, resL, resA, hv, hok, loadA, hlv, hx, hl], ids, ?_, .inl rfl⟩
 simp only [if_true]
 exact ⟨z1, z2⟩
set_option maxHeartbeats 1000000 in
theorem Gu (m : Ntw) (b : Bool) (hs : m.small) : CallOk Tryz.prog 9 [m.av, .bool b] (ownNet b m) [] := by
 obtain ⟨⟨a1, a2⟩, ⟨b1, b2⟩, c1, c2⟩ := hs
 have t1 := Us m.arr b a1
 have t2 := Us m.srv b b1
 have t3 := WQ m.rts b c1 (fun r hr => (c2 r hr).1)
 have pu : AV.pureL [m.av, .bool b] = true := by simp [AV.pure, AV.pureL, AU, BR]
 (refine AB (W := fun g => g == 25 || g == 26) true AS Tryz.func9 rfl zK zL (AC ?_); generalize hQ : Post Tryz.prog Tryz.f9 _ _ _ _ _ = Q; simp only [stIn, matL, matA, st00, Am _ _ _ pu])
 simp (disch := omega) only [go_sem]
 refine Dd t1 zK (by simp [AV.pure, AV.pureL, AU]) rfl (fun st => RI _ st) ?_
 rintro e1 h1 nx1 ⟨k1, k2, k3⟩
 simp only at k1 k2 k3
 have q0 : h1 0 = ⟨25, [m.av], true, false, true⟩ := by rw [k2 0 zO]; rfl
 have q1 : h1 1 = ⟨28, [.agg [.nil, .nil, .nil]], true, false, true⟩ := by rw [k2 1 zO]; rfl
 have q2 : h1 2 = ⟨28, [.agg [.nil, .nil, .nil]], true, false, true⟩ := by rw [k2 2 zO]; rfl
 obtain ⟨o1, w1', v1⟩ := k3.one1
 have w1 := Mj _ w1'
 simp (disch := omega) only [go_sem, q0, q1, q2, o1, w1, List.length_cons, List.length_nil, List.all_cons, List.all_nil]
 refine Dd t2 zK (by simp [AV.pure, AV.pureL, AU]) rfl (fun st => RI _ st) ?_
 rintro e2 h2 nx2 ⟨l1, l2, l3⟩
 simp only at l1 l2 l3
 have r0 : h2 0 = ⟨25, [m.av], true, false, true⟩ := by rw [l2 0 zO]; simp (disch := omega) only [AA, ↓reduceIte, if_neg, q0]
 have r1 : h2 1 = ⟨28, [.agg [.nil, .nil, .nil]], true, false, true⟩ := by rw [l2 1 zO]; simp (disch := omega) only [AA, ↓reduceIte, if_neg, q1]
 have r2 : h2 2 = ⟨28, [.agg [e1, .nil, .nil]], true, false, true⟩ := by
  rw [l2 2 zO]; simp (disch := omega) only [AA, ↓reduceIte, if_neg, if_pos]
  exact Eq.trans (congrArg (fun c => (⟨28, [.agg (setCells [.nil, .nil, .nil] 0 c)], true, false, true⟩ : Blk)) w1') rfl
 obtain ⟨o2, w2', v2⟩ := l3.one1
 have w2 := Mj _ w2'
 have R1 : RowsN h2 b nx2 3 [rowOf m.arr, rowOf m.srv] [e1, e2] := RowsN.app (ps := [rowOf m.arr]) (es := [e1]) l1 k1 (k3.keep (Nat.le_refl _) (fun i hi hj => by rw [l2 i hj]; simp (disch := omega) only [AA, if_neg])) l3
 simp (disch := omega) only [go_sem, r0, r1, r2, o1, w1, o2, w2, List.length_cons, List.length_nil, List.all_cons, List.all_nil]
 refine Dd t3 zK (by simp [AV.pure, AV.pureL, BR]) rfl (fun st => Nf st) ?_
 rintro e3 h3 nx3 ⟨m1, m2, m3⟩
 simp only at m1 m2 m3
 have s0 : h3 0 = ⟨25, [m.av], true, false, true⟩ := by rw [m2 0 zO]; simp (disch := omega) only [AA, ↓reduceIte, if_neg, r0]
 have s1 : h3 1 = ⟨28, [.agg [.nil, .nil, .nil]], true, false, true⟩ := by rw [m2 1 zO]; simp (disch := omega) only [AA, ↓reduceIte, if_neg, r1]
 have s2 : h3 2 = ⟨28, [.agg [e1, e2, .nil]], true, false, true⟩ := by
  rw [m2 2 zO]; simp (disch := omega) only [AA, ↓reduceIte, if_neg, if_pos]
  exact Eq.trans (congrArg (fun c => (⟨28, [.agg (setCells [e1, .nil, .nil] 1 c)], true, false, true⟩ : Blk)) w2') rfl
 obtain ⟨o3, w3', v3⟩ := m3.one1
 have w3 := Mj _ w3'
 have HN : NetN h3 b nx3 3 m (.agg [e1, e2, e3]) := ⟨e1, e2, e3, nx2, rfl, zO, m1, R1.keep (Nat.le_refl _) (fun i hi hj => by rw [m2 i hj]; simp (disch := omega) only [AA, if_neg]), m3⟩
 clear w1 w2 w3 w1' w2' w3' o1 o2
 rcases m3.shape with rfl | ⟨a, b', c, rfl⟩
 all_goals
  simp (disch := omega) only [go_sem, s0, s1, s2, o3, v1, v2, Bool.and_self]
  rw [← hQ]
  exact RX (id := 1) (hi := nx3) (lo := 3) (.inl rfl) rfl Xl zV zU zU Xs (HN.keep (fun i h1 h2 => by simp (disch := omega) only [AA, if_neg]) (Nat.le_refl _))
def Ntw.lens (m : Ntw) : Prop := txsLen m.arr ∧ txsLen m.srv ∧ m.rts.length < 4611686018427387904 ∧ ∀ r ∈ m.rts, txsLen r
def szN (m : Ntw) (l : Int) : Int :=
 if szS m.arr l < 0 then -1 else if szS m.srv (szS m.arr l) < 0 then -1 else if szSS m.rts (szS m.srv (szS m.arr l)) < 0 then -1 else szSS m.rts (szS m.srv (szS m.arr l))
theorem PH {m : Ntw} (h : ¬ szN m 1000000 < 0) : m.small := by
 unfold szN at h
 split at h
 ·omega
 ·split at h
  ·omega
  ·split at h
   ·omega
   ·rename_i c1 c2 c3
    obtain ⟨a1, a2, a3⟩ := GP (xs := m.arr) (l := 1000000) zO zO
    obtain ⟨b1, b2, b3⟩ := GP (xs := m.srv) (show 0 ≤ szS m.arr 1000000 by omega) zO
    obtain ⟨d1, d2, d3⟩ := T3 (rs := m.rts) (show 0 ≤ szS m.srv (szS m.arr 1000000) by omega) zO
    exact ⟨⟨zO, fun x hx => by have := a2 x hx; omega⟩, ⟨zO, fun x hx => by have := b2 x hx; omega⟩, zO, fun r hr => ⟨by have := (d2 r hr).1; omega, fun x hx => by have := (d2 r hr).2 x hx; omega⟩⟩
theorem Gv (m : Ntw) (hl : m.lens) : CW Tryz.prog 7 [m.av, .int .i64 1000000] (.int .i64 (szN m 1000000)) := by
 obtain ⟨⟨a1, a2⟩, ⟨b1, b2⟩, c1, c2⟩ := hl
 have pu : AV.pureL [m.av, .int .i64 1000000] = true := by simp [AV.pure, AV.pureL, AU, BR]
 refine cw zK pu rfl ?_
 have z1 := cw zK (by simp [AV.pure, AV.pureL, AU]) rfl (VX m.arr 1000000 zO zO a1 a2)
 unfold szN
 have y1 : 0 ≤ szS m.arr 1000000 → szS m.arr 1000000 ≤ 1000000 := fun h => (GP zO h).2.2
 generalize szS m.arr 1000000 = z at *
 by_cases h1 : z < 0
 ·rw [if_pos h1]
  (refine AB (W := fun _ => false) false AS Tryz.func7 rfl zK zL (AC ?_); generalize hQ : Post Tryz.prog Tryz.f7 _ _ _ _ _ = Q; simp only [stIn, matL, matA, st00, Am _ _ _ pu])
  simp (disch := omega) only [go_sem, z1]
  (repeat (with_reducible refine Or.inr ?_))
  rw [← hQ]
  exact AG (.inl rfl) rfl zV rfl
 rw [if_neg h1]
 have z2 := cw zK (by simp [AV.pure, AV.pureL, AU]) rfl (VX m.srv z zO zO b1 b2)
 have y2 : 0 ≤ szS m.srv z → szS m.srv z ≤ z := fun h => (GP zO h).2.2
 generalize szS m.srv z = w at *
 by_cases h2 : w < 0
 ·rw [if_pos h2]
  (refine AB (W := fun _ => false) false AS Tryz.func7 rfl zK zL (AC ?_); generalize hQ : Post Tryz.prog Tryz.f7 _ _ _ _ _ = Q; simp only [stIn, matL, matA, st00, Am _ _ _ pu])
  simp (disch := omega) only [go_sem, z1, z2]
  (repeat (with_reducible refine Or.inr ?_))
  rw [← hQ]
  exact AG (.inl rfl) rfl zV rfl
 rw [if_neg h2]
 have z3 := cw zK (by simp [AV.pure, AV.pureL, BR]) rfl (WE m.rts w zO zO c1 c2)
 generalize szSS m.rts w = v at *
 by_cases h3 : v < 0
 ·rw [if_pos h3]
  (refine AB (W := fun _ => false) false AS Tryz.func7 rfl zK zL (AC ?_); generalize hQ : Post Tryz.prog Tryz.f7 _ _ _ _ _ = Q; simp only [stIn, matL, matA, st00, Am _ _ _ pu])
  simp (disch := omega) only [go_sem, z1, z2, z3]
  (repeat (with_reducible refine Or.inr ?_))
  rw [← hQ]
  exact AG (.inl rfl) rfl zV rfl
 ·rw [if_neg h3]
  (refine AB (W := fun _ => false) false AS Tryz.func7 rfl zK zL (AC ?_); generalize hQ : Post Tryz.prog Tryz.f7 _ _ _ _ _ = Q; simp only [stIn, matL, matA, st00, Am _ _ _ pu])
  simp (disch := omega) only [go_sem, z1, z2, z3]
  (repeat (with_reducible refine Or.inr ?_))
  rw [← hQ]
  exact AG (.inl rfl) rfl zV rfl
theorem NetN.out {h : Nat → Blk} {hi lo : Nat} {m : Ntw} {e : AV} (H : NetN h false hi lo m e) : ∃ i1 i2 o es lo1 hi1, e = .agg [.ref i1 (m.arr.length + roomB m.arr.length) 0 m.arr.length, .ref i2 (m.srv.length + roomB m.srv.length) 0 m.srv.length, .ref o (m.rts.length + roomB m.rts.length) 0 m.rts.length] ∧
  i1 < hi ∧ i2 < hi ∧ o < hi ∧ h i1 = rowBlk (rowOf m.arr) ∧ h i2 = rowBlk (rowOf m.srv) ∧ h o = ⟨22, es ++ List.replicate (roomB m.rts.length) spareRow, true, true, true⟩ ∧ RowsN h false hi1 lo1 (rowsP m.rts) es ∧ hi1 ≤ hi := by
 obtain ⟨e1, e2, e3, m1, rfl, k1, k2, k3, k4⟩ := H
 obtain ⟨i1, a1, a2, a3, a4⟩ := k3.at_ (i := 0) (p := rowOf m.arr) rfl D5
 obtain ⟨i2, b1, b2, b3, b4⟩ := k3.at_ (i := 1) (p := rowOf m.srv) rfl D5
 have hl : ∀ x : Txs, (rowOf x).2.length = roomB x.length := fun x => by simp [rowOf, spareL]
 simp only [List.getElem?_cons_zero, List.getElem?_cons_succ, Option.some.injEq, hl] at a3 b3
 unfold NestN at k4
 rw [if_neg (fun h => by cases h.1)] at k4
 obtain ⟨o, es, c1, c2, c3, c4, c5⟩ := k4
 rw [Cr] at c3
 exact ⟨i1, i2, o, es, m1, o, by rw [a3, b3, c3]; rfl, zO, zO, c2, a4, b4, c4, c5, zO⟩
set_option maxHeartbeats 1000000 in
theorem G2 {fr : Nat → AV} {h : Nat → Blk} {nx hi1 lo1 hi2 lo2 : Nat} {m : Ntw} {e f : AV} (H1 : NetN h false hi1 lo1 m e) (H2 : NetN h false hi2 lo2 m f) (hs : m.small) (l1 : hi1 ≤ nx) (l2 : hi2 ≤ nx) :
  InOk Tryz.prog ⟨fr, h, nx⟩ 11 [e, f] (.bool true) ⟨fr, h, nx⟩ := by
 obtain ⟨⟨a1, a2⟩, ⟨b1, b2⟩, c1, c2⟩ := hs
 obtain ⟨i1, i2, o, es, lo1', hi1', rfl, p1, p2, p3, q1, q2, q3, q4, q5⟩ := H1.out
 obtain ⟨j1, j2, o', es', lo2', hi2', rfl, r1, r2, r3, s1, s2, s3, s4, s5⟩ := H2.out
 refine Ct (W := ⟨fun _ => false, fun _ => none⟩) AS Tryz.func11 rfl zK zL (AC ?_)
 generalize hQ : PostS Tryz.prog Tryz.f11 _ _ _ _ = Q
 have hl : ∀ x : Txs, (rowOf x).2.length = roomB x.length := fun x => by simp [rowOf, spareL]
 simp (disch := omega) only [go_sem]
 generalize hH : upd (upd h nx _) (nx + 1) _ = H
 have hk : ∀ i, i < nx → H i = h i := fun i hi => by rw [← hH]; simp (disch := omega) only [AA, if_neg]
 have d0 : H nx = ⟨28, [.agg [.ref i1 (m.arr.length + roomB m.arr.length) 0 m.arr.length, .ref i2 (m.srv.length + roomB m.srv.length) 0 m.srv.length, .ref o (m.rts.length + roomB m.rts.length) 0 m.rts.length]], true, false, true⟩ := by rw [← hH]; simp (disch := omega) only [AA, ↓reduceIte, if_neg, if_pos]; rfl
 have d1 : H (nx + 1) = ⟨28, [.agg [.ref j1 (m.arr.length + roomB m.arr.length) 0 m.arr.length, .ref j2 (m.srv.length + roomB m.srv.length) 0 m.srv.length, .ref o' (m.rts.length + roomB m.rts.length) 0 m.rts.length]], true, false, true⟩ := by rw [← hH]; simp (disch := omega) only [AA, ↓reduceIte, if_neg, if_pos]; rfl
 refine Aj (Hx (i := i1) (j := j1) (xs := m.arr) (sp := spareL m.arr.length) (by rw [hk _ zO]; exact q1) (by rw [hk _ zO]; exact s1) rfl rfl (by simp [spareL]) a1) zK (.inr ⟨rfl, rfl⟩) ?_
 simp (disch := omega) only [go_sem, d0, d1]
 refine Aj (Hx (i := i2) (j := j2) (xs := m.srv) (sp := spareL m.srv.length) (by rw [hk _ zO]; exact q2) (by rw [hk _ zO]; exact s2) rfl rfl (by simp [spareL]) b1) zK (.inr ⟨rfl, rfl⟩) ?_
 simp (disch := omega) only [go_sem, d0, d1]
 refine Aj (Mb (o1 := o) (o2 := o') (rs := m.rts) (by rw [hk _ zO]; exact q3) (by rw [hk _ zO]; exact s3) (q4.keep (Nat.le_refl _) (fun i _ hi => hk i zO)) (s4.keep (Nat.le_refl _) (fun i _ hi => hk i zO)) rfl rfl c1 (fun r hr => (c2 r hr).1)) zK (.inr ⟨rfl, rfl⟩) ?_
 simp (disch := omega) only [go_sem]
 rw [← hQ]
 exact DO (.inl rfl) rfl zV rfl (fun i hi _ => by simp only; exact hk i hi)
attribute [go_sem] Gv
theorem A0 {P : Program} {fn : Func} {t u : Tmp} {T id : Nat} {x y r : AV} {ids : List Nat} {b : Bool} {st : St} {e : Ex} {h' : Nat → Blk} {nx : Nat} {eat : List Nat} (he : e = .ret ∨ e = .normal) (hr : fn.results.toList = [.cell t T, .tmp u]) (hok : okT P T = true) (hv : st.fr t = .ptr id 1 0 0) (hw : st.fr u = .bool b)
  (hlv : (st.h id).lv = true) (hx : (st.h id).xs = [x]) (hl : ldA P T x 0 = some y) (hs : snapA st 7 y = some (r, ids)) (hids : ∀ i ∈ ids, nx ≤ i) (hh : ∀ i, i < nx → i ∉ eat → st.h i = h' i) :
  PostS P fn (.tup [r, .bool b]) h' nx eat e st := by
 refine ⟨by rcases he with rfl | rfl <;> trivial, ⟨.tup [y, .bool b], ids, by rw [hr]; simp [resV, resL, resA, hv, hw, hok, loadA, hlv, hx, hl], ?_, by simpa using hids⟩, hh⟩
 have h2 : snapA st 7 (.bool b) = some (.bool b, []) := AL rfl
 have : snapA st (7 + 1) (.tup [y, .bool b]) = some (.tup [r, .bool b], ids) := by
  by_cases hy : y.pure = true
  ·have := AL (st := st) (n := 7) hy
   rw [hs] at this
   simp only [Option.some.injEq, Prod.mk.injEq] at this
   obtain ⟨rfl, rfl⟩ := this
   exact AL (by simp [AV.pure, AV.pureL, hy])
  ·rw [snapA]
   simp [AV.pure, AV.pureL, snapL, hs, h2, hy]
 exact this
theorem Ut {st : St} {a b : AV} {o n T : Nat} {xs : List AV} {e g : Bool} (ha : a.pure = true) (hb : b.pure = true) (ho : st.h o = ⟨T, xs, e, g, true⟩) (hn : xs.length = n) (hp : AV.pureL xs = true) : snapA st 7 (.agg [a, b, .ref o n 0 n]) = some (.agg [a, b, .sl T xs [] false], [o]) := by
 have h1 : snapA st 6 (.ref o n 0 n) = some (.sl T xs [] false, [o]) := Av (d := 5) (by rw [ho]) (by rw [ho]; exact hn) (by rw [ho]) zO (by rw [ho, List.drop_zero]; exact List.take_of_length_le zT) hp
 have h2 : snapA st 6 a = some (a, []) := AL ha
 have h3 : snapA st 6 b = some (b, []) := AL hb
 rw [snapA]
 simp [AV.pure, AV.pureL, snapL, h1, h2, h3]
set_option maxRecDepth 10000 in
set_option maxHeartbeats 8000000 in
theorem Mk {fr : Nat → AV} {h : Nat → Blk} {nx id : Nat} {m : Ntw} (hm0 : m.small) (hb : h id = ⟨28, [m.av], true, false, true⟩) (hid : id < nx) :
  InOk Tryz.prog ⟨fr, h, nx⟩ 30 [.ptr id 1 0 0] (netS m) ⟨fr, h, nx⟩ := by
 refine Ct (W := ⟨fun _ => false, fun q => if q = 18 then some [(0, 0), (1, 2)] else none⟩) AS Tryz.func30 rfl zK zL (AC ?_)
 generalize hQ : PostS Tryz.prog Tryz.f30 _ _ _ _ = Q
 obtain ⟨⟨a1, a2⟩, ⟨b1, b2⟩, c1, c2⟩ := hm0
 have n1 : (id = nx) = False := by simp; omega
 have n2 : (id = nx + 1) = False := by simp; omega
 have n3 : (nx = nx + 1) = False := by simp
 have n4 : (nx + 1 = nx) = False := by simp
 have wA := HD (xs := m.arr) zO a2
 have wS := HD (xs := m.srv) zO b2
 obtain ⟨k, hk⟩ : ∃ k, m.srv.length = k := ⟨_, rfl⟩
 obtain ⟨ka, hka⟩ : ∃ k, m.arr.length = k := ⟨_, rfl⟩
 obtain ⟨kr, hkr⟩ : ∃ k, m.rts.length = k := ⟨_, rfl⟩
 rw [netS] at hQ
 by_cases hnet : netOk m
 ·have hnet' := hnet
  unfold netOk at hnet'
  rw [hk, hka, hkr] at hnet'
  obtain ⟨k1, k6, rfl, rfl⟩ := hnet'
  rw [netQ, if_pos hnet] at hQ
  have hlsr : m.srv.mapM parseR = listR m.srv := by unfold listR; rw [if_neg zO]
  have n5 : (nx + 1 = id) = False := by simp; omega
  rw [LX, hlsr] at hQ
  cases hla : listR m.arr with
  | none =>
   rw [hla, optLS] at wA
   rw [hla] at hQ
   cases hls : listR m.srv with
   | none =>
    rw [hls, optLS] at wS
    simp (disch := omega) only [go_sem, ↓AH, hb, n1, n2, n3, n4, n5, AE, hk, hka, hkr, AN, wA, wS]
    (repeat (with_reducible refine Or.inr ?_))
    rw [← hQ]
    exact A0 (id := nx) (x := .agg [.nil, .nil, .nil]) (ids := []) (.inl rfl) rfl EK zV zV zU zU Ce (AL rfl) zS (fun i hi _ => by simp (disch := omega) only [AA, if_neg])
   | some s =>
    rw [hls, optLS] at wS
    simp (disch := omega) only [go_sem, ↓AH, hb, n1, n2, n3, n4, n5, AE, hk, hka, hkr, AN, wA, wS]
    (repeat (with_reducible refine Or.inr ?_))
    rw [← hQ]
    exact A0 (id := nx) (x := .agg [.nil, .nil, .nil]) (ids := []) (.inl rfl) rfl EK zV zV zU zU Ce (AL rfl) zS (fun i hi _ => by simp (disch := omega) only [AA, if_neg])
  | some a =>
   rw [hla, optLS] at wA
   rw [hla] at hQ
   have hal : a.length = kr := by
    have := hla; unfold listR at this; rw [if_neg zO] at this; rw [Cs this, hka]
   have wP := Ek (qs := a) zO
   cases hls : listR m.srv with
   | none =>
    rw [hls, optLS] at wS
    rw [hls] at hQ
    simp (disch := omega) only [go_sem, ↓AH, hb, n1, n2, n3, n4, n5, AE, hk, hka, hkr, AN, wA, wS]
    (repeat (with_reducible refine Or.inr ?_))
    rw [← hQ]
    exact A0 (id := nx) (x := .agg [.nil, .nil, .nil]) (ids := []) (.inl rfl) rfl EK zV zV zU zU Ce (AL rfl) zS (fun i hi _ => by simp (disch := omega) only [AA, if_neg])
   | some s =>
    rw [hls, optLS] at wS
    rw [hls] at hQ
    have hsl : s.length = kr := by
     have := hls; unfold listR at this; rw [if_neg zO] at this; rw [Cs this, hk]
    have wB := H7 (qs := s) zO
    by_cases hps : posAll s = true
    ·rw [hps] at wB
     simp only [if_pos hps] at hQ
     by_cases hna : nonneg a = true
     ·have hna' : (a.all fun q => !decide (q < 0)) = true := hna
      rw [hna'] at wP
      simp only [if_pos hna] at hQ
      rw [hk] at hQ
      simp (disch := omega) only [go_sem, ↓AH, hb, n1, n2, n3, n4, n5, AE, hk, hka, hkr, AN, wA, wS, wP, wB]
      (repeat (with_reducible refine Or.inr ?_))
      refine AM (fun (⟨i, o, qs⟩ : Nat × Nat × List (List Rat)) st => st.fr 0 = .ptr id 1 0 0 ∧ st.fr 2 = .ptr nx 1 0 0 ∧ st.fr 4 = .int .i64 kr ∧ st.fr 5 = .ptr (nx + 1) 1 0 0 ∧ st.fr 83 = .int .i64 kr ∧ st.fr 84 = .int .i64 i ∧ st.h nx = ⟨41, [.agg [.nil, .nil, .nil]], true, false, true⟩ ∧
        st.h (nx + 1) = ⟨41, [.agg [lS 700 a, lS 700 s, if i = 0 then .nil else .ref o i 0 i]], true, false, true⟩ ∧ (0 < i → st.h o = ⟨38, rwS qs, false, true, true⟩ ∧ nx + 2 ≤ o ∧ o < st.nx) ∧ (∀ j, j < nx → st.h j = h j) ∧ nx + 2 ≤ st.nx ∧ i ≤ kr ∧ qs.length = i ∧ (m.rts.take i).mapM (rowQ kr) = some qs) (fun (⟨i, _, _⟩ : Nat × Nat × List (List Rat)) => kr - i) (0, 0, [])
       ⟨zV, zV, zV, zV, zV, zV, by simp (disch := omega) only [AA, ↓reduceIte, if_neg, if_pos], by simp (disch := omega) only [AA, ↓reduceIte, if_neg, if_pos], zO, fun j hj => by simp (disch := omega) only [AA, if_neg], zT, zO, rfl, zS⟩ ?_
      rintro ⟨i, o, qs⟩ ⟨fr1, h2, nx1⟩ ⟨g0, g2, g4, g5, g83, g84, hm0, hm1, hm2, hold, hnx, hi, hql, hqm⟩ J hJ
      simp only at g0 g2 g4 g5 g83 g84 hm0 hm1 hm2 hold hnx hi hql hqm
      have hb2 : h2 id = ⟨28, [m.av], true, false, true⟩ := by rw [hold id hid]; exact hb
      by_cases hin : i < kr
      ·obtain ⟨xs, hx⟩ := AI (xs := m.rts) (i := i) zO
       have rtx := Ei hx
       have hrl : (rowsT m.rts).length = kr := by rw [AN, hkr]
       obtain ⟨x1, x2⟩ := c2 xs (List.mem_of_getElem? hx)
       have wR := HD (xs := xs) zO x2
       have m1 : (nx = nx1) = False := by simp; omega
       have m2 : (nx + 1 = nx1) = False := by simp; omega
       have hbadrow : rowQ kr xs = none → PostS Tryz.prog Tryz.f30 (.tup [.agg [.nil, .nil, .nil], .bool false]) h nx [] = Q := fun hn => by rw [← hQ, DK hx hn]
       cases hlr : listR xs with
       | none =>
        rw [hlr, optLS] at wR
        have hQ := hbadrow (by unfold rowQ; rw [hlr])
        simp (disch := omega) only [go_sem, ↓AH, g0, g2, g4, g5, g83, g84, hb2, hm0, hm1, n1, n2, n3, n4, n5, m1, m2, hrl, rtx, AN, wR]
        (repeat (with_reducible refine Or.inr ?_))
        rw [← hQ]
        exact A0 (id := nx) (x := .agg [.nil, .nil, .nil]) (ids := []) (.inl rfl) rfl EK zV zV (by simp (disch := omega) only [AA, ↓reduceIte, if_neg, if_pos, hm0]) (by simp (disch := omega) only [AA, ↓reduceIte, if_neg, if_pos, hm0]) Ce (AL rfl) zS (fun i hi _ => by simp (disch := omega) only [AA, if_neg, hold i hi])
       | some q =>
        rw [hlr, optLS] at wR
        by_cases hqn : q.length = kr
        ·have wN := Ek (qs := q) zO
         cases hnn : (q.all fun q => !decide (q < 0)) with
         | false =>
          rw [hnn] at wN
          have hQ := hbadrow (by unfold rowQ; rw [hlr]; simp only; rw [if_neg (fun h => by have := h.2.1; unfold nonneg at this; rw [hnn] at this; cases this)])
          simp (disch := omega) only [go_sem, ↓AH, g0, g2, g4, g5, g83, g84, hb2, hm0, hm1, n1, n2, n3, n4, n5, m1, m2, hrl, rtx, AN, wR, wN, hqn]
          (repeat (with_reducible refine Or.inr ?_))
          rw [← hQ]
          exact A0 (id := nx) (x := .agg [.nil, .nil, .nil]) (ids := []) (.inl rfl) rfl EK zV zV (by simp (disch := omega) only [AA, ↓reduceIte, if_neg, if_pos, hm0]) (by simp (disch := omega) only [AA, ↓reduceIte, if_neg, if_pos, hm0]) Ce (AL rfl) zS (fun i hi _ => by simp (disch := omega) only [AA, if_neg, hold i hi])
         | true =>
          rw [hnn] at wN
          have wT := H0 (m := 700) (qs := q) zO zO
          rw [hqn] at wT
          have wL := J0 (m := 64) (n := 64 + kr * (700 + 1)) (a := 1) (b := sumL q) zO
          by_cases hsum : 1 < sumL q
          ·rw [decide_eq_true hsum] at wL
           have hQ := hbadrow (by unfold rowQ; rw [hlr]; simp only; rw [if_neg (fun h => h.2.2 hsum)])
           simp (disch := omega) only [go_sem, ↓AH, g0, g2, g4, g5, g83, g84, hb2, hm0, hm1, n1, n2, n3, n4, n5, m1, m2, hrl, rtx, AN, wR, wN, hqn, wT, wL]
           (repeat (with_reducible refine Or.inr ?_))
           rw [← hQ]
           exact A0 (id := nx) (x := .agg [.nil, .nil, .nil]) (ids := []) (.inl rfl) rfl EK zV zV (by simp (disch := omega) only [AA, ↓reduceIte, if_neg, if_pos, hm0]) (by simp (disch := omega) only [AA, ↓reduceIte, if_neg, if_pos, hm0]) Ce (AL rfl) zS (fun i hi _ => by simp (disch := omega) only [AA, if_neg, hold i hi])
          ·rw [decide_eq_false hsum] at wL
           have hrq : rowQ kr xs = some q := by unfold rowQ; rw [hlr]; simp only; rw [if_pos ⟨hqn, hnn, hsum⟩]
           have hqm2 := Dx hqm hx hrq
           have hsn : rwS qs ++ [.sl 85 (ratM 700 q) [] false] = rwS (qs ++ [q]) := RU
           have keyJ := fun o' => hJ (i + 1, o', qs ++ [q])
           clear hJ
           by_cases hi0 : i = 0
           ·subst hi0
            simp only [if_true] at hm1
            obtain rfl : qs = [] := List.length_eq_zero_iff.1 hql
            have hsn0 : ([.sl 85 (ratM 700 q) [] false] : List AV) = rwS ([] ++ [q]) := rfl
            simp (disch := omega) only [go_sem, ↓AH, g0, g2, g4, g5, g83, g84, hb2, hm0, hm1, n1, n2, n3, n4, n5, m1, m2, hrl, rtx, AN, wR, wN, wT, wL, hqn, reach, List.length_cons, List.length_nil]
            (repeat (with_reducible refine Or.inr ?_))
            exact keyJ nx1 _ ⟨(by simp [AA, g0] <;> omega), (by simp [AA, g2] <;> omega), (by simp [AA, g4] <;> omega), (by simp [AA, g5] <;> omega), (by simp [AA, g83] <;> omega), zV, by simp (disch := omega) only [AA, ↓reduceIte, if_neg, if_pos, hm0], by simp (disch := omega) only [AA, ↓reduceIte, if_neg, if_pos], fun _ => ⟨by simp (disch := omega) only [AA, ↓reduceIte, if_neg, if_pos]; rw [hsn0], zO, zT⟩, fun j hj => by simp (disch := omega) only [AA, if_neg, hold j hj], zT, zO, zS, hqm2⟩ zT
           ·obtain ⟨ho, ho1, ho2⟩ := hm2 zO
            simp only [hi0, if_false] at hm1
            have p1 : (o = nx + 1) = False := by simp; omega
            have p2 : (nx + 1 = o) = False := by simp; omega
            have hol : (rwS qs).length = i := by rw [Fz, hql]
            simp (disch := omega) only [go_sem, ↓AH, g0, g2, g4, g5, g83, g84, hb2, hm0, hm1, n1, n2, n3, n4, n5, m1, m2, hrl, rtx, AN, wR, wN, wT, wL, hqn, reach, List.length_cons, List.length_nil, ho, hol, hsn, p1, p2]
            (repeat (with_reducible refine Or.inr ?_))
            exact keyJ o _ ⟨(by simp [AA, g0] <;> omega), (by simp [AA, g2] <;> omega), (by simp [AA, g4] <;> omega), (by simp [AA, g5] <;> omega), (by simp [AA, g83] <;> omega), zV, by simp (disch := omega) only [AA, ↓reduceIte, if_neg, if_pos, hm0], by simp (disch := omega) only [AA, ↓reduceIte, if_neg, if_pos], fun _ => ⟨by simp (disch := omega) only [AA, ↓reduceIte, if_neg, if_pos], zO, zT⟩, fun j hj => by simp (disch := omega) only [AA, if_neg, hold j hj], zT, zO, zW, hqm2⟩ zT
        ·have hQ := hbadrow (by unfold rowQ; rw [hlr]; simp only; rw [if_neg (fun h => hqn h.1)])
         simp (disch := omega) only [go_sem, ↓AH, g0, g2, g4, g5, g83, g84, hb2, hm0, hm1, n1, n2, n3, n4, n5, m1, m2, hrl, rtx, AN, wR, hqn]
         (repeat (with_reducible refine Or.inr ?_))
         rw [← hQ]
         exact A0 (id := nx) (x := .agg [.nil, .nil, .nil]) (ids := []) (.inl rfl) rfl EK zV zV (by simp (disch := omega) only [AA, ↓reduceIte, if_neg, if_pos, hm0]) (by simp (disch := omega) only [AA, ↓reduceIte, if_neg, if_pos, hm0]) Ce (AL rfl) zS (fun i hi _ => by simp (disch := omega) only [AA, if_neg, hold i hi])
      ·obtain rfl : i = kr := by omega
       obtain ⟨ho, ho1, ho2⟩ := hm2 zO
       rw [if_neg zO] at hm1
       rw [List.take_of_length_le zO] at hqm
       rw [hqm] at hQ
       simp only at hQ
       have hrn : ∀ (j : Nat) (r : List Rat), qs[j]? = some r → r.length = i := fun j r hj => DM (P := fun r => r.length = i) (fun x y h => (D6 h).2.1) hqm r (List.mem_of_getElem? hj)
       have hE := fun (fr : Nat → AV) (h : Nat → Blk) (nx' : Nat) (h1 : h (nx + 1) = _) (h2 : h o = _) (h3 : nx + 1 < nx') (h4 : o < nx') => PE (fr := fr) (h := h) (nx := nx') (id := nx + 1) (o := o) (n := i) (av := lS 700 a) (srv := s) (rs := qs) (e := false) h1 h3 h2 h4 hql hsl hrn zO
       simp (disch := omega) only [go_sem, ↓AH, g0, g2, g4, g5, g83, g84, hm0, hm1, n1, n2, n3, n4, n5]
       refine Aj (hE _ _ _ hm1 ho zO zO) zK (.inr ⟨rfl, rfl⟩) ?_
       simp (disch := omega) only [go_sem, ↓AH, g0, g2, g4, g5, g83, g84, hm0, hm1, n1, n2, n3, n4, n5]
       refine ⟨hE _ _ _ (by simp (disch := omega) only [AA, if_neg, hm1]) (by simp (disch := omega) only [AA, if_neg, ho]) zO zO, ?_⟩
       rw [← hQ]
       exact A0 (id := nx) (x := .agg [lS 700 a, lS 700 s, .ref o i 0 i]) (ids := [o]) (.inl rfl) rfl EK zV zV zU zU Ce (Ut (e := false) (g := true) zP zP (by simp (disch := omega) only [AA, if_neg, ho]) (by rw [Fz, hql]) LW) zW (fun j hj _ => by simp (disch := omega) only [AA, if_neg, hold j hj])
     ·have hna' : (a.all fun q => !decide (q < 0)) = false := by simpa [nonneg] using hna
      rw [hna'] at wP
      simp only [if_neg hna] at hQ
      simp (disch := omega) only [go_sem, ↓AH, hb, n1, n2, n3, n4, n5, AE, hk, hka, hkr, AN, wA, wS, wP]
      (repeat (with_reducible refine Or.inr ?_))
      rw [← hQ]
      exact A0 (id := nx) (x := .agg [.nil, .nil, .nil]) (ids := []) (.inl rfl) rfl EK zV zV zU zU Ce (AL rfl) zS (fun i hi _ => by simp (disch := omega) only [AA, if_neg])
    ·have hps' : posAll s = false := by simpa using hps
     rw [hps'] at wB
     simp only [if_neg hps] at hQ
     cases hna' : (a.all fun q => !decide (q < 0)) with
     | true =>
      rw [hna'] at wP
      simp (disch := omega) only [go_sem, ↓AH, hb, n1, n2, n3, n4, n5, AE, hk, hka, hkr, AN, wA, wS, wP, wB]
      (repeat (with_reducible refine Or.inr ?_))
      rw [← hQ]
      exact A0 (id := nx) (x := .agg [.nil, .nil, .nil]) (ids := []) (.inl rfl) rfl EK zV zV zU zU Ce (AL rfl) zS (fun i hi _ => by simp (disch := omega) only [AA, if_neg])
     | false =>
      rw [hna'] at wP
      simp (disch := omega) only [go_sem, ↓AH, hb, n1, n2, n3, n4, n5, AE, hk, hka, hkr, AN, wA, wS, wP]
      (repeat (with_reducible refine Or.inr ?_))
      rw [← hQ]
      exact A0 (id := nx) (x := .agg [.nil, .nil, .nil]) (ids := []) (.inl rfl) rfl EK zV zV zU zU Ce (AL rfl) zS (fun i hi _ => by simp (disch := omega) only [AA, if_neg])
 ·rw [netQ, if_neg hnet] at hQ
  unfold netOk at hnet
  rw [hk, hka, hkr] at hnet
  by_cases q1 : k < 1
  ·simp (disch := omega) only [go_sem, ↓AH, hb, n1, n3, n4, AE, hk, hka, hkr, AN]
   rw [← hQ]
   exact A0 (id := nx) (x := .agg [.nil, .nil, .nil]) (ids := []) (.inl rfl) rfl EK zV zV zU zU Ce (AL rfl) zS (fun i hi _ => by simp (disch := omega) only [AA, if_neg])
  by_cases q2 : 6 < k
  ·simp (disch := omega) only [go_sem, ↓AH, hb, n1, n3, n4, AE, hk, hka, hkr, AN]
   rw [← hQ]
   exact A0 (id := nx) (x := .agg [.nil, .nil, .nil]) (ids := []) (.inl rfl) rfl EK zV zV zU zU Ce (AL rfl) zS (fun i hi _ => by simp (disch := omega) only [AA, if_neg])
  by_cases q3 : ka = k
  ·simp (disch := omega) only [go_sem, ↓AH, hb, n1, n3, n4, AE, hk, hka, hkr, AN]
   rw [← hQ]
   exact A0 (id := nx) (x := .agg [.nil, .nil, .nil]) (ids := []) (.inl rfl) rfl EK zV zV zU zU Ce (AL rfl) zS (fun i hi _ => by simp (disch := omega) only [AA, if_neg])
  ·simp (disch := omega) only [go_sem, ↓AH, hb, n1, n3, n4, AE, hk, hka, hkr, AN]
   rw [← hQ]
   exact A0 (id := nx) (x := .agg [.nil, .nil, .nil]) (ids := []) (.inl rfl) rfl EK zV zV zU zU Ce (AL rfl) zS (fun i hi _ => by simp (disch := omega) only [AA, if_neg])
theorem H8 {qs : List Rat} (hl : qs.length ≤ 1000) : CW Tryz.prog 75 [lI 700 qs, .fn (.func 70) [] []] (.int .i64 (negI qs 0)) := by
 refine cw zK zP zP ?_
 obtain ⟨L, hL⟩ : ∃ n, qs.length = n := ⟨_, rfl⟩
 rw [hL] at hl
 (refine AB (W := fun _ => false) false AS Tryz.func75 rfl zK zL (AC ?_); generalize hQ : Post Tryz.prog Tryz.f75 _ _ _ _ _ = Q; simp only [stIn, matL, matA, st00])
 simp (disch := omega) only [go_sem, hL]
 refine AM (fun (i : Nat) st => st.fr 0 = lI 700 qs ∧ st.fr 1 = .fn (.func 70) [] [] ∧ st.fr 7 = .int .i64 L ∧ st.fr 8 = .int .i64 i ∧ i ≤ L ∧ negI (qs.drop i) i = negI qs 0) (fun i => L - i) 0 ⟨zV, zV, zV, zV, zO, rfl⟩ ?_
 rintro i ⟨fr, h, nx⟩ ⟨g0, g1, g7, g8, hi, ha⟩ J hJ
 simp only at g0 g1 g7 g8
 by_cases hin : i < L
 ·obtain ⟨q, hq⟩ := AI (xs := qs) (i := i) zO
  have hat := T5 hq
  have hm := GU (m := 700) (a := q) zO
  simp only [rI] at hm
  simp (disch := omega) only [go_sem, g0, g1, g7, g8, hq]
  rw [Nh (g := 70) zU rfl]
  by_cases hneg : q < 0
  ·rw [if_pos hneg] at hat
   rw [decide_eq_true hneg] at hm
   rw [← ha, hat] at hQ
   simp (disch := omega) only [go_sem, g0, g1, g7, g8, hm]
   (repeat (with_reducible refine Or.inr ?_))
   rw [← hQ]
   exact AG (.inl rfl) rfl zV rfl
  ·rw [if_neg hneg] at hat
   rw [decide_eq_false hneg] at hm
   simp (disch := omega) only [go_sem, g0, g1, g7, g8, hm]
   (repeat (with_reducible refine Or.inr ?_))
   exact hJ (i + 1) _ ⟨(by simp [AA, g0] <;> omega), (by simp [AA, g1] <;> omega), (by simp [AA, g7] <;> omega), zV, hin, by rw [← hat, ha]⟩ zO
 ·obtain rfl : i = L := by omega
  rw [List.drop_eq_nil_of_le zO, negI] at ha
  rw [← ha] at hQ
  simp (disch := omega) only [go_sem, g0, g1, g7, g8]
  rw [← hQ]
  exact AG (.inl rfl) rfl zV rfl
attribute [go_sem] H8
theorem H9 {qs : List Rat} (hl : qs.length ≤ 1000) : CW Tryz.prog 44 [lI 700 qs, .fn (.func 70) [] []] (.bool (!(qs.all fun q => !decide (q < 0)))) := by
 refine cw zK zP zP ?_
 have h1 := H8 (qs := qs) hl
 have h2 := Ng qs 0
 generalize negI qs 0 = z at *
 generalize (qs.all fun q => !decide (q < 0)) = p at *
 rw [← h2]
 (refine AB (W := fun _ => false) false AS Tryz.func44 rfl zK zL (AC ?_); generalize hQ : Post Tryz.prog Tryz.f44 _ _ _ _ _ = Q; simp only [stIn, matL, matA, st00])
 simp (disch := omega) only [go_sem, h1]
 (repeat (with_reducible refine Or.inr ?_))
 rw [← hQ]
 exact AG (.inl rfl) rfl zU rfl
attribute [go_sem] H9
theorem Ni {fr : Nat → AV} {h : Nat → Blk} {nx id o n i : Nat} {av sv : AV} {rs : List (List Rat)} {r : List Rat} {e : Bool} (hb : h id = ⟨50, [.agg [av, sv, .ref o n 0 n]], true, false, true⟩) (hid : id < nx)
  (ho : h o = ⟨47, rwI rs, e, true, true⟩) (hon : o < nx) (hrs : rs.length = n) (hr : rs[i]? = some r) (hrn : r.length ≤ 1000) :
  InOk Tryz.prog ⟨fr, h, nx⟩ 72 [.ptr id 1 0 0, .int .i64 i] (rI (lvM r.length) (1 - sumL r)) ⟨fr, h, nx⟩ := by
 refine Ct (W := ⟨fun _ => false, fun _ => none⟩) AS Tryz.func72 rfl zK zL (AC ?_)
 generalize hQ : PostS Tryz.prog Tryz.f72 _ _ _ _ = Q
 have hi : i < n := by rw [← hrs]; exact (List.getElem?_eq_some_iff.1 hr).1
 have ati := J8 hr
 have hol : (rwI rs).length = n := by rw [FC, hrs]
 have n1 : (id = nx) = False := by simp; omega
 have n2 : (o = nx) = False := by simp; omega
 have hT := Q7 (m := 700) (qs := r) zO zO
 have hw1 : CW Tryz.prog 47 [.int .i64 1] (rI 64 1) := E8 (n := 1) zO zO
 simp (disch := omega) only [go_sem, hb, ho, ati, hol, n1, n2, hT, hw1]
 (repeat (with_reducible refine Or.inr ?_))
 rw [← hQ]
 exact Gt (id := nx) (x := rI (lvM r.length) (1 - sumL r)) (.inl rfl) rfl BA zV zU (by simp [AA, lvM]) Ar zP (fun k hk _ => by simp (disch := omega) only [AA, if_neg])
theorem Nj {q : Rat} (h : 0 ≤ q) : decide (0 < q.num.sign) = !decide (q = 0) := by
 rw [LP]
 by_cases c : q = 0
 ·rw [c]; rfl
 ·have h1 : 0 < q := by grind
  simp [c, h1]
set_option maxHeartbeats 4000000 in
theorem UF {fr : Nat → AV} {h : Nat → Blk} {nx o l n M : Nat} {rs : List (List Rat)} {ls : List Rat} {e1 e2 : Bool} (ho : h o = ⟨47, rwI rs, e1, true, true⟩) (hon : o < nx) (hl : h l = ⟨76, ratL M ls, e2, true, true⟩) (hln : l < nx)
  (hrs : rs.length = n) (hls : ls.length = n) (hrn : ∀ (i : Nat) (r : List Rat), rs[i]? = some r → r.length = n ∧ nonneg r = true) (hlv : ∀ (i : Nat) (r : List Rat), rs[i]? = some r → ls[i]? = some (1 - sumL r) ∧ ¬ 1 < sumL r) (hn : n ≤ 6) (hM : M ≤ 100000) :
  InOk Tryz.prog ⟨fr, h, nx⟩ 74 [.ref o n 0 n, .ref l n 0 n] (.sl 4 (boolA (mapB n (eAll (lvL rs) (nzL rs) n n))) [] false) ⟨fr, h, nx⟩ := by
 refine Ct (W := ⟨fun _ => false, fun _ => none⟩) AS Tryz.func74 rfl zK zL (AC ?_)
 generalize hQ : PostS Tryz.prog Tryz.f74 _ _ _ _ = Q
 have hol : (rwI rs).length = n := by rw [FC, hrs]
 have hll : (ratL M ls).length = n := by rw [Ab, hls]
 have hb0 : ((n * 1 : Nat) : Int) ≤ 140737488355328 := by omega
 have n1 : (o = nx) = False := by simp; omega
 have n2 : (l = nx) = False := by simp; omega
 have hrep : List.replicate n (AV.bool false) = boolA (mapB n fun _ => false) := by rw [← Mc]; simp [boolA]
 simp (disch := omega) only [go_sem, hl, hll, n1, n2, reach, hb0, hrep]
 refine AM (fun (t : Nat) st => st.fr 0 = .ref o n 0 n ∧ st.fr 1 = .ref l n 0 n ∧ st.fr 5 = .ref nx n 0 n ∧ st.fr 13 = .int .i64 n ∧ st.fr 14 = .int .i64 t ∧ st.h nx = ⟨4, boolA (mapB n (eAll (lvL rs) (nzL rs) n t)), true, true, true⟩ ∧ (∀ k, k < nx → st.h k = h k) ∧ nx < st.nx ∧ t ≤ n) (fun t => n - t) 0
  ⟨zV, zV, zV, zV, zV, by simp [AA]; rfl, fun k hk => by simp (disch := omega) only [AA, if_neg], zS, zO⟩ ?_
 rintro t ⟨fr1, h1, nx1⟩ ⟨g0, g1, g5, g13, g14, hm, hold, hnx, ht⟩ J hJ
 simp only at g0 g1 g5 g13 g14 hm hold hnx
 by_cases hin : t < n
 ·have keyJ := hJ (t + 1)
  clear hJ
  have hA : eAll (lvL rs) (nzL rs) n (t + 1) = eRow (lvL rs) (nzL rs) n (eAll (lvL rs) (nzL rs) n t) n := rfl
  rw [hA] at keyJ
  generalize eAll (lvL rs) (nzL rs) n t = S0 at *
  have hl1 : h1 l = ⟨76, ratL M ls, e2, true, true⟩ := by rw [hold l hln]; exact hl
  simp (disch := omega) only [go_sem, g0, g1, g5, g13, g14, hl1, hll]
  refine AM (fun (i : Nat) st => st.fr 0 = .ref o n 0 n ∧ st.fr 1 = .ref l n 0 n ∧ st.fr 5 = .ref nx n 0 n ∧ st.fr 13 = .int .i64 n ∧ st.fr 14 = .int .i64 t ∧ st.fr 17 = .int .i64 n ∧ st.fr 18 = .int .i64 i ∧ st.h nx = ⟨4, boolA (mapB n (eRow (lvL rs) (nzL rs) n S0 i)), true, true, true⟩ ∧ (∀ k, k < nx → st.h k = h k) ∧ nx < st.nx ∧ i ≤ n) (fun i => n - i) 0
   ⟨(by simp [AA, g0] <;> omega), (by simp [AA, g1] <;> omega), (by simp [AA, g5] <;> omega), (by simp [AA, g13] <;> omega), (by simp [AA, g14] <;> omega), zV, zV, by simpa [eRow] using hm, hold, hnx, zO⟩ ?_
  clear hm hold hl1 hnx
  rintro i ⟨fr2, h2, nx2⟩ ⟨s0, s1, s5, s13, s14, s17, s18, hm, hold, hnx, hi⟩ J2 hJ2
  simp only at s0 s1 s5 s13 s14 s17 s18 hm hold hnx
  by_cases hin2 : i < n
  ·have keyJ2 := hJ2 (i + 1)
   clear hJ2
   have hR : eRow (lvL rs) (nzL rs) n S0 (i + 1) = eStep (lvL rs) (nzL rs) n (eRow (lvL rs) (nzL rs) n S0 i) i := rfl
   rw [hR, ← O7] at keyJ2
   generalize eRow (lvL rs) (nzL rs) n S0 i = S at *
   obtain ⟨r, hr⟩ := AI (xs := rs) (i := i) zO
   have hgr : rs.getD i [] = r := by rw [List.getD_eq_getElem?_getD, hr]; rfl
   obtain ⟨hrl, hrp⟩ := hrn i r hr
   obtain ⟨hli, hl1s⟩ := hlv i r hr
   have hl0 : (0 : Rat) ≤ 1 - sumL r := by grind
   have hlvi : decide (0 < (1 - sumL r).num.sign) = lvL rs i := by rw [lvL, hgr]; exact Nj hl0
   have hl2 : h2 l = ⟨76, ratL M ls, e2, true, true⟩ := by rw [hold l hln]; exact hl
   have ho2 : h2 o = ⟨47, rwI rs, e1, true, true⟩ := by rw [hold o hon]; exact ho
   have hbl : ∀ T : Nat → Bool, (boolA (mapB n T)).length = n := fun T => by rw [DL, Fx]
   have hat : ∀ (T : Nat → Bool) k, k < n → (mapB n T)[k]? = some (T k) := fun T k hk => T4 hk
   have ati := J8 hr
   have m1 : (o = nx) = False := n1
   have hset0 : ∀ b, b = eOut (lvL rs) (nzL rs) S i 0 i → (boolA (mapB n S)).set i (.bool b) = boolA (mapB n (eOut (lvL rs) (nzL rs) S i 0)) := fun b hb => by rw [I6, LQ hb (fun k hk => FY hk)]
   have he0 : eOut (lvL rs) (nzL rs) S i 0 i = (S i || lvL rs i) := by rw [O8]; simp
   have hs0 := hset0 (S i || lvL rs i) he0.symm
   have hsg := Cq (m := M) (a := 1 - sumL r) zO
   generalize (1 - sumL r).num.sign = c at *
   generalize eOut_z : eOut (lvL rs) (nzL rs) S i 0 = T0 at *
   have hcase : S i = true ∨ (S i = false ∧ 0 < c) ∨ (S i = false ∧ ¬ 0 < c) := by
    cases S i
    ·by_cases h : 0 < c
     ·exact .inr (.inl ⟨rfl, h⟩)
     ·exact .inr (.inr ⟨rfl, h⟩)
    ·exact .inl rfl
   rcases hcase with hS | ⟨hS, hc⟩ | ⟨hS, hc⟩ <;> rw [hS] at hs0
   focus
    simp only [Bool.true_or] at hs0
    simp (disch := omega) only [go_sem, s0, s1, s5, s13, s14, s17, s18, hm, hbl, Cc, hat, n1, n2, hl2, hll, hs0, ho2, hol, ati, hS]
   rotate_left 1
   focus
    rw [decide_eq_true hc] at hlvi
    rw [← hlvi] at hs0
    simp only [Bool.false_or] at hs0
    have hdt : decide (c > 0) = true := decide_eq_true hc
    simp (disch := omega) only [go_sem, s0, s1, s5, s13, s14, s17, s18, hm, hbl, Cc, hat, n1, n2, hl2, hll, hs0, ho2, hol, ati, hS, hli, hsg, hdt]
   rotate_left 1
   focus
    rw [decide_eq_false hc] at hlvi
    rw [← hlvi] at hs0
    simp only [Bool.false_or] at hs0
    have hdd : decide (c > 0) = false := decide_eq_false hc
    simp (disch := omega) only [go_sem, s0, s1, s5, s13, s14, s17, s18, hm, hbl, Cc, hat, n1, n2, hl2, hll, hs0, ho2, hol, ati, hS, hli, hsg, hdd]
   rotate_left 1
   all_goals try (repeat (with_reducible refine Or.inr ?_))
   all_goals
    have hrM : (ratL 700 r).length = n := by rw [Ab, hrl]
    refine AM (fun (j : Nat) st => st.fr 0 = .ref o n 0 n ∧ st.fr 1 = .ref l n 0 n ∧ st.fr 5 = .ref nx n 0 n ∧ st.fr 13 = .int .i64 n ∧ st.fr 14 = .int .i64 t ∧ st.fr 17 = .int .i64 n ∧ st.fr 18 = .int .i64 i ∧ st.fr 6 = .int .i64 i ∧ st.fr 39 = .sl 76 (ratL 700 r) [] false ∧ st.fr 40 = .int .i64 n ∧ st.fr 41 = .int .i64 j ∧
     st.h nx = ⟨4, boolA (mapB n (eOut (lvL rs) (nzL rs) S i j)), true, true, true⟩ ∧ (∀ k, k < nx → st.h k = h k) ∧ nx < st.nx ∧ j ≤ n) (fun j => n - j) 0
     ⟨(by simp [AA, s0] <;> omega), (by simp [AA, s1] <;> omega), (by simp [AA, s5] <;> omega), (by simp [AA, s13] <;> omega), (by simp [AA, s14] <;> omega), (by simp [AA, s17] <;> omega), (by simp [AA, s18] <;> omega), zV, zV, by simp [AA, hrl], zV, by simp (disch := omega) only [AA, ↓reduceIte, if_neg, if_pos, hm, eOut_z], fun k hk => by simp (disch := omega) only [AA, if_neg, hold k hk], zT, zO⟩ ?_
    clear hm hold hnx hl2 ho2 hlvi hs0 hset0 he0 hsg
    rintro j ⟨fr3, h3, nx3⟩ ⟨r0, r1, r5, r13, r14, r17, r18, r6, r39, r40, r41, hm3, hold3, hnx3, hj⟩ J3 hJ3
    simp only at r0 r1 r5 r13 r14 r17 r18 r6 r39 r40 r41 hm3 hold3 hnx3
    by_cases hin3 : j < n
    ·have key3 := hJ3 (j + 1)
     clear hJ3
     obtain ⟨q, hq⟩ := AI (xs := r) (i := j) zO
     have hq0 : 0 ≤ q := by
      have := List.all_eq_true.1 hrp q (List.mem_of_getElem? hq)
      exact Rat.not_lt.1 (by simpa using this)
     have hnz : decide (0 < q.num.sign) = nzL rs i j := by rw [nzL, hgr, Fy hq]; exact Nj hq0
     have hsq := Cq (m := 700) (a := q) zO
     have k1 : (nx = nx3) = False := by simp; omega
     have k2 : (nx3 = nx) = False := by simp; omega
     have hupd : True := trivial
     have hstep := @O9 (lvL rs) (nzL rs) S i j
     have hset1 : ∀ b, b = eOut (lvL rs) (nzL rs) S i (j + 1) i → (boolA (mapB n (eOut (lvL rs) (nzL rs) S i j))).set i (.bool b) = boolA (mapB n (eOut (lvL rs) (nzL rs) S i (j + 1))) := fun b hb => by rw [I6, LQ hb (fun k hk => by rw [FY hk, FY hk])]
     generalize eOut (lvL rs) (nzL rs) S i (j + 1) = T1 at *
     generalize eOut (lvL rs) (nzL rs) S i j = T at *
     generalize q.num.sign = d at *
     cases hTi : T i with
     | true =>
      rw [hTi, Bool.true_or] at hstep
      have hs1 := hset1 true hstep
      simp (disch := omega) only [go_sem, r0, r1, r5, r13, r14, r17, r18, r6, r39, r40, r41, hm3, hbl, Cc, hat, hrM, hq, k1, k2, hupd, hTi, hs1]
      (repeat (with_reducible refine Or.inr ?_))
      exact key3 _ ⟨(by simp [AA, r0] <;> omega), (by simp [AA, r1] <;> omega), (by simp [AA, r5] <;> omega), (by simp [AA, r13] <;> omega), (by simp [AA, r14] <;> omega), (by simp [AA, r17] <;> omega), (by simp [AA, r18] <;> omega), (by simp [AA, r6] <;> omega), (by simp [AA, r39] <;> omega), (by simp [AA, r40] <;> omega), zV, by simp (disch := omega) only [AA, ↓reduceIte, if_neg, if_pos, hm3], fun k hk => by simp (disch := omega) only [AA, if_neg, hold3 k hk], zT, hin3⟩ zO
     | false =>
      rw [hTi, Bool.false_or] at hstep
      by_cases hd : 0 < d
      ·rw [decide_eq_true hd] at hnz
       rw [← hnz, Bool.true_and] at hstep
       have hs1 := hset1 (T j) hstep
       cases hTj : T j <;> rw [hTj] at hs1
       ·simp (disch := omega) only [go_sem, r0, r1, r5, r13, r14, r17, r18, r6, r39, r40, r41, hm3, hbl, Cc, hat, hrM, hq, k1, k2, hupd, hTi, hTj, hs1, hsq, hd]
        (repeat (with_reducible refine Or.inr ?_))
        exact key3 _ ⟨(by simp [AA, r0] <;> omega), (by simp [AA, r1] <;> omega), (by simp [AA, r5] <;> omega), (by simp [AA, r13] <;> omega), (by simp [AA, r14] <;> omega), (by simp [AA, r17] <;> omega), (by simp [AA, r18] <;> omega), (by simp [AA, r6] <;> omega), (by simp [AA, r39] <;> omega), (by simp [AA, r40] <;> omega), zV, by simp (disch := omega) only [AA, ↓reduceIte, if_neg, if_pos, hm3], fun k hk => by simp (disch := omega) only [AA, if_neg, hold3 k hk], zT, hin3⟩ zO
       ·simp (disch := omega) only [go_sem, r0, r1, r5, r13, r14, r17, r18, r6, r39, r40, r41, hm3, hbl, Cc, hat, hrM, hq, k1, k2, hupd, hTi, hTj, hs1, hsq, hd]
        (repeat (with_reducible refine Or.inr ?_))
        exact key3 _ ⟨(by simp [AA, r0] <;> omega), (by simp [AA, r1] <;> omega), (by simp [AA, r5] <;> omega), (by simp [AA, r13] <;> omega), (by simp [AA, r14] <;> omega), (by simp [AA, r17] <;> omega), (by simp [AA, r18] <;> omega), (by simp [AA, r6] <;> omega), (by simp [AA, r39] <;> omega), (by simp [AA, r40] <;> omega), zV, by simp (disch := omega) only [AA, ↓reduceIte, if_neg, if_pos, hm3], fun k hk => by simp (disch := omega) only [AA, if_neg, hold3 k hk], zT, hin3⟩ zO
      ·rw [decide_eq_false hd] at hnz
       rw [← hnz, Bool.false_and] at hstep
       have hs1 := hset1 false hstep
       have hdd : decide (d > 0) = false := decide_eq_false hd
       simp (disch := omega) only [go_sem, r0, r1, r5, r13, r14, r17, r18, r6, r39, r40, r41, hm3, hbl, Cc, hat, hrM, hq, k1, k2, hupd, hTi, hs1, hsq, hdd]
       (repeat (with_reducible refine Or.inr ?_))
       exact key3 _ ⟨(by simp [AA, r0] <;> omega), (by simp [AA, r1] <;> omega), (by simp [AA, r5] <;> omega), (by simp [AA, r13] <;> omega), (by simp [AA, r14] <;> omega), (by simp [AA, r17] <;> omega), (by simp [AA, r18] <;> omega), (by simp [AA, r6] <;> omega), (by simp [AA, r39] <;> omega), (by simp [AA, r40] <;> omega), zV, by simp (disch := omega) only [AA, ↓reduceIte, if_neg, if_pos, hm3], fun k hk => by simp (disch := omega) only [AA, if_neg, hold3 k hk], zT, hin3⟩ zO
    ·obtain rfl : j = n := by omega
     simp (disch := omega) only [go_sem, r0, r1, r5, r13, r14, r17, r18, r6, r39, r40, r41]
     exact keyJ2 _ ⟨(by simp [AA, r0] <;> omega), (by simp [AA, r1] <;> omega), (by simp [AA, r5] <;> omega), (by simp [AA, r13] <;> omega), (by simp [AA, r14] <;> omega), (by simp [AA, r17] <;> omega), zV, hm3, hold3, hnx3, hin2⟩ zO
  ·obtain rfl : i = n := by omega
   simp (disch := omega) only [go_sem, s0, s1, s5, s13, s14, s17, s18]
   exact keyJ _ ⟨(by simp [AA, s0] <;> omega), (by simp [AA, s1] <;> omega), (by simp [AA, s5] <;> omega), (by simp [AA, s13] <;> omega), zV, hm, hold, hnx, hin⟩ zO
 ·obtain rfl : t = n := by omega
  simp (disch := omega) only [go_sem, g0, g1, g5, g13, g14]
  rw [← hQ]
  exact B6 (id := nx) (n := t) (off := 0) (len := t) (.inl rfl) rfl zV (by simp [hm]) (by simp [hm, DL, Fx]) (by simp [hm]) zO zO (by simp only [hm, List.drop_zero]; exact List.take_of_length_le (by rw [DL, Fx]; exact Nat.le_refl _)) (Ma _) (fun i hi _ => by simp only; exact hold i hi)
def falI : List Bool → Nat → Int
 | [], _ => -1
 | b :: bs, k => if b = true then falI bs (k + 1) else k
theorem Nk : ∀ (bs : List Bool) (k : Nat), decide (0 ≤ falI bs k) = !(bs.all id)
 | [], k => rfl
 | b :: bs, k => by
  have ih := Nk bs (k + 1)
  unfold falI
  cases b with
  | true => simpa using ih
  | false => simp
theorem UG {bs : List Bool} {i : Nat} {b : Bool} (h : bs[i]? = some b) : falI (bs.drop i) i = if b = true then falI (bs.drop (i + 1)) (i + 1) else (i : Int) := by
 have hi := (List.getElem?_eq_some_iff.1 h).1
 rw [List.drop_eq_getElem_cons hi, falI, (List.getElem?_eq_some_iff.1 h).2]
theorem LY {bs : List Bool} (hl : bs.length ≤ 1000) : CW Tryz.prog 104 [.sl 4 (boolA bs) [] false, .bool false] (.int .i64 (falI bs 0)) := by
 refine cw zK zP zP ?_
 obtain ⟨L, hL⟩ : ∃ n, bs.length = n := ⟨_, rfl⟩
 rw [hL] at hl
 obtain ⟨a, ha⟩ : ∃ a, falI bs 0 = a := ⟨_, rfl⟩
 rw [ha]
 (refine AB (W := fun _ => false) false AS Tryz.func104 rfl zK zL (AC ?_); generalize hQ : Post Tryz.prog Tryz.f104 _ _ _ _ _ = Q; simp only [stIn, matL, matA, st00])
 simp (disch := omega) only [go_sem, DL, hL]
 refine AM (fun (i : Nat) st => st.fr 0 = .sl 4 (boolA bs) [] false ∧ st.fr 1 = .bool false ∧ st.fr 7 = .int .i64 L ∧ st.fr 8 = .int .i64 i ∧ i ≤ L ∧ falI (bs.drop i) i = a) (fun i => L - i) 0 ⟨zV, zV, zV, zV, zO, by simpa using ha⟩ ?_
 rintro i ⟨fr, h, nx⟩ ⟨g0, g1, g7, g8, hi, hf⟩ J hJ
 simp only at g0 g1 g7 g8
 by_cases hin : i < L
 ·obtain ⟨b, hb⟩ := AI (xs := bs) (i := i) zO
  have hat := UG hb
  cases b with
  | true =>
   rw [if_pos rfl] at hat
   have e : (false == true) = false := rfl
   simp (disch := omega) only [go_sem, g0, g1, g7, g8, DL, hL, Cc, hb, e]
   exact hJ (i + 1) _ ⟨(by simp [AA, g0] <;> omega), (by simp [AA, g1] <;> omega), (by simp [AA, g7] <;> omega), zV, hin, by rw [← hat, hf]⟩ zO
  | false =>
   rw [if_neg zD] at hat
   have e : (false == false) = true := rfl
   rw [← hf, hat] at hQ
   simp (disch := omega) only [go_sem, g0, g1, g7, g8, DL, hL, Cc, hb, e]
   rw [← hQ]
   exact AG (.inl rfl) rfl zV rfl
 ·obtain rfl : i = L := by omega
  rw [List.drop_eq_nil_of_le zO, falI] at hf
  rw [← hf] at hQ
  simp (disch := omega) only [go_sem, g0, g1, g7, g8]
  rw [← hQ]
  exact AG (.inl rfl) rfl zV rfl
theorem WR {bs : List Bool} (hl : bs.length ≤ 1000) : CallOk Tryz.prog 73 [.sl 4 (boolA bs) [] false, .bool false] (.bool (!(bs.all id))) [] := by
 have h1 := LY (bs := bs) hl
 have h2 := Nk bs 0
 generalize falI bs 0 = z at *
 generalize (bs.all id) = p at *
 rw [← h2]
 (refine AB (W := fun _ => false) false AS Tryz.func73 rfl zK zL (AC ?_); generalize hQ : Post Tryz.prog Tryz.f73 _ _ _ _ _ = Q; simp only [stIn, matL, matA, st00])
 simp (disch := omega) only [go_sem, h1]
 (repeat (with_reducible refine Or.inr ?_))
 rw [← hQ]
 exact AG (.inl rfl) rfl zU rfl
theorem BE {P : Program} {fn : Func} {n0 : Nat} {fl : Bool} {t u : Tmp} {T id : Nat} {x y r : AV} {ids : List Nat} {b : Bool} {st : St} {e : Ex} (he : e = .ret ∨ e = .normal) (hr : fn.results.toList = [.cell t T, .tmp u]) (hok : okT P T = true) (hv : st.fr t = .ptr id 1 0 0) (hw : st.fr u = .bool b)
  (hlv : (st.h id).lv = true) (hx : (st.h id).xs = [x]) (hl : ldA P T x 0 = some y) (hs : snapA st 7 y = some (r, ids)) (hids : ∀ i ∈ ids, n0 ≤ i) :
  Post P fn n0 fl false (.tup [r, .bool b]) [] e st := by
 refine ⟨by rcases he with rfl | rfl <;> trivial, .tup [y, .bool b], by rw [hr]; simp [resV, resL, resA, hv, hw, hok, loadA, hlv, hx, hl], ids, ?_, .inl rfl⟩
 simp only [Bool.false_eq_true, if_false]
 refine ⟨?_, hids⟩
 have h2 : snapA st 7 (.bool b) = some (.bool b, []) := AL rfl
 have : snapA st (7 + 1) (.tup [y, .bool b]) = some (.tup [r, .bool b], ids) := by
  by_cases hy : y.pure = true
  ·have := AL (st := st) (n := 7) hy
   rw [hs] at this
   simp only [Option.some.injEq, Prod.mk.injEq] at this
   obtain ⟨rfl, rfl⟩ := this
   exact AL (by simp [AV.pure, AV.pureL, hy])
  ·rw [snapA]
   simp [AV.pure, AV.pureL, snapL, hs, h2, hy]
 exact this
attribute [go_sem] LY
abbrev NR.iv (x : NR) : AV := .agg [lI 700 x.arr, lI 700 x.srv, .sl 47 (rwI x.rts) [] false]
def netI (m : Ntw) : AV := match netQ m with
 | some x => .tup [x.iv, .bool (endsB (lvL x.rts) (nzL x.rts) m.srv.length)]
 | none => .tup [.agg [.nil, .nil, .nil], .bool false]
theorem RY {n : Nat} {S : Nat → Bool} : (mapB n S).all id = (List.range n).all S := by simp [mapB, List.all_map]
set_option maxRecDepth 10000 in
set_option maxHeartbeats 8000000 in
theorem LZ {m : Ntw} (hm0 : m.small) (hpm : AV.pureL (rowsT m.rts) = true) : CallOk Tryz.prog 43 [m.av] (netI m) [] := by
 obtain ⟨⟨a1, a2⟩, ⟨b1, b2⟩, c1, c2⟩ := hm0
 have wA := MY (xs := m.arr) zO (fun x hx => by have := a2 x hx; omega)
 have wS := Gr (xs := m.srv) (ex := false) b1 b2
 obtain ⟨k, hk⟩ : ∃ k, m.srv.length = k := ⟨_, rfl⟩
 obtain ⟨ka, hka⟩ : ∃ k, m.arr.length = k := ⟨_, rfl⟩
 obtain ⟨kr, hkr⟩ : ∃ k, m.rts.length = k := ⟨_, rfl⟩
 rw [netI]
 by_cases hnet : netOk m
 ·have hnet' := hnet
  unfold netOk at hnet'
  rw [hk, hka, hkr] at hnet'
  obtain ⟨k1, k6, rfl, rfl⟩ := hnet'
  rw [netQ, if_pos hnet]
  cases hla : listR m.arr with
  | none =>
   rw [hla, optLI] at wA
   cases hls : m.srv.mapM posR with
   | none =>
    rw [hls, optLI] at wS
    (refine Ac (W := ⟨fun _ => false, fun r => if r = 18 then some [(0, 0), (2, 7), (4, 7), (5, 7)] else none⟩) false AS Tryz.func43 rfl zK zL (AC ?_); generalize hQ : Post Tryz.prog Tryz.f43 _ _ _ _ _ = Q; simp only [stIn, matL, matA, st00])
    simp (disch := omega) only [go_sem, ↓AH, AE, hk, hka, hkr, AN, wA, wS]
    (repeat (with_reducible refine Or.inr ?_))
    rw [← hQ]
    exact BE (id := 1) (x := .agg [.nil, .nil, .nil]) (ids := []) (.inl rfl) rfl EQ zV zV zU zU C6 (AL rfl) zS
   | some s =>
    rw [hls, optLI] at wS
    (refine Ac (W := ⟨fun _ => false, fun r => if r = 18 then some [(0, 0), (2, 7), (4, 7), (5, 7)] else none⟩) false AS Tryz.func43 rfl zK zL (AC ?_); generalize hQ : Post Tryz.prog Tryz.f43 _ _ _ _ _ = Q; simp only [stIn, matL, matA, st00])
    simp (disch := omega) only [go_sem, ↓AH, AE, hk, hka, hkr, AN, wA, wS]
    (repeat (with_reducible refine Or.inr ?_))
    rw [← hQ]
    exact BE (id := 1) (x := .agg [.nil, .nil, .nil]) (ids := []) (.inl rfl) rfl EQ zV zV zU zU C6 (AL rfl) zS
  | some a =>
   rw [hla, optLI] at wA
   have hal : a.length = kr := by
    have := hla; unfold listR at this; rw [if_neg zO] at this; rw [Cs this, hka]
   have wP := H9 (qs := a) zO
   cases hls : m.srv.mapM posR with
   | none =>
    rw [hls, optLI] at wS
    (refine Ac (W := ⟨fun _ => false, fun r => if r = 18 then some [(0, 0), (2, 7), (4, 7), (5, 7)] else none⟩) false AS Tryz.func43 rfl zK zL (AC ?_); generalize hQ : Post Tryz.prog Tryz.f43 _ _ _ _ _ = Q; simp only [stIn, matL, matA, st00])
    simp (disch := omega) only [go_sem, ↓AH, AE, hk, hka, hkr, AN, wA, wS]
    (repeat (with_reducible refine Or.inr ?_))
    rw [← hQ]
    exact BE (id := 1) (x := .agg [.nil, .nil, .nil]) (ids := []) (.inl rfl) rfl EQ zV zV zU zU C6 (AL rfl) zS
   | some s =>
    rw [hls, optLI] at wS
    have hsl : s.length = kr := by rw [Cs hls, hk]
    by_cases hna : nonneg a = true
    ·have hna' : (a.all fun q => !decide (q < 0)) = true := hna
     rw [hna', Bool.not_true] at wP
     simp only [if_pos hna]
     rw [hk]
     (refine Ac (W := ⟨fun _ => false, fun r => if r = 18 then some [(0, 0), (2, 7), (4, 7), (5, 7)] else none⟩) false AS Tryz.func43 rfl zK zL (AC ?_); generalize hQ : Post Tryz.prog Tryz.f43 _ _ _ _ _ = Q; simp only [stIn, matL, matA, st00])
     simp (disch := omega) only [go_sem, ↓AH, AE, hk, hka, hkr, AN, wA, wS, wP]
     (repeat (with_reducible refine Or.inr ?_))
     refine AM (fun (⟨i, o, qs⟩ : Nat × Nat × List (List Rat)) st => st.fr 1 = .ptr 0 1 0 0 ∧ st.fr 2 = .ptr 1 1 0 0 ∧ st.fr 4 = .int .i64 kr ∧ st.fr 9 = .ptr 3 1 0 0 ∧ st.fr 10 = .ref 2 i 0 i ∧ st.fr 67 = .sl 22 (rowsT m.rts) [] false ∧ st.fr 68 = .int .i64 kr ∧ st.fr 69 = .int .i64 i ∧ st.h 0 = ⟨28, [m.av], true, false, true⟩ ∧
       st.h 1 = ⟨50, [.agg [.nil, .nil, .nil]], true, false, true⟩ ∧ st.h 2 = ⟨76, ratL (lvM kr) (qs.map fun r => 1 - sumL r), (i == 0), true, true⟩ ∧ st.h 3 = ⟨50, [.agg [lI 700 a, lI 700 s, if i = 0 then .nil else .ref o i 0 i]], true, false, true⟩ ∧
       (0 < i → st.h o = ⟨47, rwI qs, false, true, true⟩ ∧ 4 ≤ o ∧ o < st.nx) ∧ 4 ≤ st.nx ∧ i ≤ kr ∧ qs.length = i ∧ (m.rts.take i).mapM (rowQ kr) = some qs) (fun (⟨i, _, _⟩ : Nat × Nat × List (List Rat)) => kr - i) (0, 0, [])
      ⟨zV, zV, zV, zV, zV, zV, zV, zV, zU, zU, by simp [AA, ratL], zU, zO, zS, zO, rfl, zS⟩ ?_
     rintro ⟨i, o, qs⟩ ⟨fr1, h2, nx1⟩ ⟨g1, g2, g4, g9, g10, g67, g68, g69, hm0, hm1, hm2, hm3, hmo, hnx, hi, hql, hqm⟩ J hJ
     simp only at g1 g2 g4 g9 g10 g67 g68 g69 hm0 hm1 hm2 hm3 hmo hnx hi hql hqm
     have m0 : (0 = nx1) = False := by simp; omega
     have m1 : (1 = nx1) = False := by simp; omega
     have m2 : (2 = nx1) = False := by simp; omega
     have m3 : (3 = nx1) = False := by simp; omega
     have m0' : (nx1 = 0) = False := by simp; omega
     have m1' : (nx1 = 1) = False := by simp; omega
     have m2' : (nx1 = 2) = False := by simp; omega
     have m3' : (nx1 = 3) = False := by simp; omega
     by_cases hin : i < kr
     ·obtain ⟨xs, hx⟩ := AI (xs := m.rts) (i := i) zO
      have rtx := Ei hx
      have hrl : (rowsT m.rts).length = kr := by rw [AN, hkr]
      obtain ⟨x1, x2⟩ := c2 xs (List.mem_of_getElem? hx)
      have wR := MY (xs := xs) zO (fun x hx => by have := x2 x hx; omega)
      have hbadrow : rowQ kr xs = none → Post Tryz.prog Tryz.f43 (matL false [m.av] st00).snd.nx (AV.flatL [m.av]) false (.tup [.agg [.nil, .nil, .nil], .bool false]) [] = Q := fun hn => by rw [← hQ, DK hx hn]
      cases hlr : listR xs with
      | none =>
       rw [hlr, optLI] at wR
       have hQ := hbadrow (by unfold rowQ; rw [hlr])
       simp (disch := omega) only [go_sem, ↓AH, g1, g2, g4, g9, g10, g67, g68, g69, hm0, hm1, hm2, hm3, m0, m1, m2, m3, m0', m1', m2', m3', hrl, rtx, AN, wR]
       (repeat (with_reducible refine Or.inr ?_))
       rw [← hQ]
       exact BE (id := 1) (x := .agg [.nil, .nil, .nil]) (ids := []) (.inl rfl) rfl EQ zV zV (by simp (disch := omega) only [AA, ↓reduceIte, if_neg, if_pos, hm1]) (by simp (disch := omega) only [AA, ↓reduceIte, if_neg, if_pos, hm1]) C6 (AL rfl) zS
      | some q =>
       rw [hlr, optLI] at wR
       by_cases hqn : q.length = kr
       ·have wN := H9 (qs := q) zO
        cases hnn : (q.all fun q => !decide (q < 0)) with
        | false =>
         rw [hnn, Bool.not_false] at wN
         have hQ := hbadrow (by unfold rowQ; rw [hlr]; simp only; rw [if_neg (fun h => by have := h.2.1; unfold nonneg at this; rw [hnn] at this; cases this)])
         simp (disch := omega) only [go_sem, ↓AH, g1, g2, g4, g9, g10, g67, g68, g69, hm0, hm1, hm2, hm3, m0, m1, m2, m3, m0', m1', m2', m3', hrl, rtx, AN, wR, wN, hqn]
         (repeat (with_reducible refine Or.inr ?_))
         rw [← hQ]
         exact BE (id := 1) (x := .agg [.nil, .nil, .nil]) (ids := []) (.inl rfl) rfl EQ zV zV (by simp (disch := omega) only [AA, ↓reduceIte, if_neg, if_pos, hm1]) (by simp (disch := omega) only [AA, ↓reduceIte, if_neg, if_pos, hm1]) C6 (AL rfl) zS
        | true =>
         rw [hnn, Bool.not_true] at wN
         have wT := Q7 (m := 700) (qs := q) zO zO
         rw [hqn] at wT
         have hw1 : CW Tryz.prog 47 [.int .i64 1] (rI 64 1) := E8 (n := 1) zO zO
         have wC := NY (m := 64 + kr * (700 + 1)) (n := 64) (a := sumL q) (b := 1) zO
         have hgt := TS (a := sumL q) (b := 1)
         generalize cmpR (sumL q) 1 = c at *
         by_cases hsum : 0 < c
         ·have hQ := hbadrow (by unfold rowQ; rw [hlr]; simp only; rw [if_neg (fun h => h.2.2 (hgt.1 hsum))])
          have hdt : decide (c > 0) = true := decide_eq_true hsum
          simp (disch := omega) only [go_sem, ↓AH, g1, g2, g4, g9, g10, g67, g68, g69, hm0, hm1, hm2, hm3, m0, m1, m2, m3, m0', m1', m2', m3', hrl, rtx, AN, wR, wN, hqn, wT, wC, hw1, hdt]
          (repeat (with_reducible refine Or.inr ?_))
          rw [← hQ]
          exact BE (id := 1) (x := .agg [.nil, .nil, .nil]) (ids := []) (.inl rfl) rfl EQ zV zV (by simp (disch := omega) only [AA, ↓reduceIte, if_neg, if_pos, hm1]) (by simp (disch := omega) only [AA, ↓reduceIte, if_neg, if_pos, hm1]) C6 (AL rfl) zS
         ·have hdt : decide (c > 0) = false := decide_eq_false hsum
          have hrq : rowQ kr xs = some q := by unfold rowQ; rw [hlr]; simp only; rw [if_pos ⟨hqn, hnn, fun h => hsum (hgt.2 h)⟩]
          have hqm2 := Dx hqm hx hrq
          have hsn : rwI qs ++ [.sl 76 (ratL 700 q) [] false] = rwI (qs ++ [q]) := RV
          have hsl2 : ratL (lvM kr) (qs.map fun r => 1 - sumL r) ++ [rI (lvM kr) (1 - sumL q)] = ratL (lvM kr) ((qs ++ [q]).map fun r => 1 - sumL r) := by rw [List.map_append, GR]; rfl
          have hl2 : (ratL (lvM kr) (qs.map fun r => 1 - sumL r)).length = i := by rw [Ab, List.length_map, hql]
          have hz1 : (i + 1 == 0) = false := by simp
          have hat : (qs ++ [q])[i]? = some q := by rw [List.getElem?_append_right zO, hql, Nat.sub_self]; rfl
          have hln2 : (qs ++ [q]).length = i + 1 := by simp [hql]
          have hlvq : rI (lvM q.length) (1 - sumL q) = rI (lvM kr) (1 - sumL q) := by rw [hqn]
          have keyJ := fun o' => hJ (i + 1, o', qs ++ [q])
          clear hJ
          by_cases hi0 : i = 0
          ·subst hi0
           simp only [if_true] at hm3
           obtain rfl : qs = [] := List.length_eq_zero_iff.1 hql
           have hsl0 : ratL (lvM kr) [] ++ [rI (lvM kr) (1 - sumL q)] = ratL (lvM kr) (([] ++ [q]).map fun r => 1 - sumL r) := rfl
           have hsn0 : ([.sl 76 (ratL 700 q) [] false] : List AV) = rwI ([] ++ [q]) := rfl
           simp (disch := omega) only [go_sem, ↓AH, g1, g2, g4, g9, g10, g67, g68, g69, hm0, hm1, hm2, hm3, m0, m1, m2, m3, m0', m1', m2', m3', hrl, rtx, AN, wR, wN, wT, wC, hw1, hdt, hqn, reach, List.length_cons, List.length_nil]
           (repeat (with_reducible refine Or.inr ?_))
           rw [hsn0]
           refine Aj (Ni (id := 3) (o := nx1) (n := 1) (i := 0) (av := lI 700 a) (sv := lI 700 s) (rs := [] ++ [q]) (r := q) (e := false) (by simp (disch := omega) only [AA, ↓reduceIte, if_neg, if_pos]) zO (by simp (disch := omega) only [AA, ↓reduceIte, if_neg, if_pos]) zO zS zS zO) zK (.inr ⟨rfl, rfl⟩) ?_
           rw [hlvq]
           simp (disch := omega) only [go_sem, ↓AH, g1, g2, g4, g9, g10, g67, g68, g69, hm0, hm1, hm2, hm3, m0, m1, m2, m3, m0', m1', m2', m3', hrl, rtx, AN, hl2, hsl0, List.map_nil, reach, List.length_cons, List.length_nil]
           exact keyJ nx1 _ ⟨(by simp [AA, g1] <;> omega), (by simp [AA, g2] <;> omega), (by simp [AA, g4] <;> omega), (by simp [AA, g9] <;> omega), zV, (by simp [AA, g67] <;> omega), (by simp [AA, g68] <;> omega), zV, by simp (disch := omega) only [AA, ↓reduceIte, if_neg, if_pos, hm0], by simp (disch := omega) only [AA, ↓reduceIte, if_neg, if_pos, hm1], by simp (disch := omega) only [AA, ↓reduceIte, if_neg, if_pos, hz1], by simp (disch := omega) only [AA, ↓reduceIte, if_neg, if_pos], fun _ => ⟨by simp (disch := omega) only [AA, ↓reduceIte, if_neg, if_pos], zO, zT⟩, zT, zO, zS, hqm2⟩ zT
          ·obtain ⟨ho, ho1, ho2⟩ := hmo zO
           simp only [hi0, if_false] at hm3
           have p1 : (o = 3) = False := by simp; omega
           have p2 : (3 = o) = False := by simp; omega
           have p3 : (o = 2) = False := by simp; omega
           have p4 : (2 = o) = False := by simp; omega
           have hol : (rwI qs).length = i := by rw [FC, hql]
           simp (disch := omega) only [go_sem, ↓AH, g1, g2, g4, g9, g10, g67, g68, g69, hm0, hm1, hm2, hm3, m0, m1, m2, m3, m0', m1', m2', m3', hrl, rtx, AN, wR, wN, wT, wC, hw1, hdt, hqn, reach, List.length_cons, List.length_nil, ho, hol, hsn, p1, p2]
           (repeat (with_reducible refine Or.inr ?_))
           refine Aj (Ni (id := 3) (o := o) (n := i + 1) (i := i) (av := lI 700 a) (sv := lI 700 s) (rs := qs ++ [q]) (r := q) (e := false) (by simp (disch := omega) only [AA, ↓reduceIte, if_neg, if_pos]) zO (by simp (disch := omega) only [AA, ↓reduceIte, if_neg, if_pos]) zO hln2 hat zO) zK (.inr ⟨rfl, rfl⟩) ?_
           rw [hlvq]
           simp (disch := omega) only [go_sem, ↓AH, g1, g2, g4, g9, g10, g67, g68, g69, hm0, hm1, hm2, hm3, m0, m1, m2, m3, m0', m1', m2', m3', hrl, rtx, AN, hl2, hsl2, reach, List.length_cons, List.length_nil, p1, p2, p3, p4]
           exact keyJ o _ ⟨(by simp [AA, g1] <;> omega), (by simp [AA, g2] <;> omega), (by simp [AA, g4] <;> omega), (by simp [AA, g9] <;> omega), zV, (by simp [AA, g67] <;> omega), (by simp [AA, g68] <;> omega), zV, by simp (disch := omega) only [AA, ↓reduceIte, if_neg, if_pos, hm0], by simp (disch := omega) only [AA, ↓reduceIte, if_neg, if_pos, hm1], by simp (disch := omega) only [AA, ↓reduceIte, if_neg, if_pos, hz1], by simp (disch := omega) only [AA, ↓reduceIte, if_neg, if_pos], fun _ => ⟨by simp (disch := omega) only [AA, ↓reduceIte, if_neg, if_pos], zO, zT⟩, zT, zO, zW, hqm2⟩ zT
       ·have hQ := hbadrow (by unfold rowQ; rw [hlr]; simp only; rw [if_neg (fun h => hqn h.1)])
        simp (disch := omega) only [go_sem, ↓AH, g1, g2, g4, g9, g10, g67, g68, g69, hm0, hm1, hm2, hm3, m0, m1, m2, m3, m0', m1', m2', m3', hrl, rtx, AN, wR, hqn]
        (repeat (with_reducible refine Or.inr ?_))
        rw [← hQ]
        exact BE (id := 1) (x := .agg [.nil, .nil, .nil]) (ids := []) (.inl rfl) rfl EQ zV zV (by simp (disch := omega) only [AA, ↓reduceIte, if_neg, if_pos, hm1]) (by simp (disch := omega) only [AA, ↓reduceIte, if_neg, if_pos, hm1]) C6 (AL rfl) zS
     ·obtain rfl : i = kr := by omega
      obtain ⟨ho, ho1, ho2⟩ := hmo zO
      rw [if_neg zO] at hm3
      have hz0 : (i == 0) = false := by simp; omega
      rw [hz0] at hm2
      rw [List.take_of_length_le zO] at hqm
      rw [hqm] at hQ
      simp only at hQ
      have hrn : ∀ (j : Nat) (r : List Rat), qs[j]? = some r → r.length = i ∧ nonneg r = true := fun j r hj => DM (P := fun r => r.length = i ∧ nonneg r = true) (fun x y h => ⟨(D6 h).2.1, (D6 h).2.2.1⟩) hqm r (List.mem_of_getElem? hj)
      have hlv : ∀ (j : Nat) (r : List Rat), qs[j]? = some r → (qs.map fun r => 1 - sumL r)[j]? = some (1 - sumL r) ∧ ¬ 1 < sumL r := fun j r hj => ⟨by simp [hj], DM (P := fun r => ¬ 1 < sumL r) (fun x y h => (D6 h).2.2.2) hqm r (List.mem_of_getElem? hj)⟩
      have hE := fun (fr : Nat → AV) (h : Nat → Blk) (nx' : Nat) (h1 : h o = _) (h2 : h 2 = _) (h3 : o < nx') (h4 : 2 < nx') => UF (fr := fr) (h := h) (nx := nx') (o := o) (l := 2) (n := i) (M := lvM i) (rs := qs) (ls := qs.map fun r => 1 - sumL r) (e1 := false) (e2 := false) h1 h3 h2 h4 hql (by rw [List.length_map, hql]) hrn hlv zO (by unfold lvM; omega)
      have hC := WR (bs := mapB i (eAll (lvL qs) (nzL qs) i i)) (by rw [Fx]; omega)
      rw [RY] at hC
      have hen : ((List.range i).all (eAll (lvL qs) (nzL qs) i i)) = endsB (lvL qs) (nzL qs) i := rfl
      rw [hen] at hC
      have hCW := cw zK zP zP hC
      have hnn : (!(!(endsB (lvL qs) (nzL qs) i))) = endsB (lvL qs) (nzL qs) i := Bool.not_not _
      generalize mapB i (eAll (lvL qs) (nzL qs) i i) = bs at *
      generalize endsB (lvL qs) (nzL qs) i = eb at *
      simp (disch := omega) only [go_sem, ↓AH, g1, g2, g4, g9, g10, g67, g68, g69, hm0, hm1, hm2, hm3]
      refine Aj (hE _ _ _ ho hm2 zO zO) zK (.inr ⟨rfl, rfl⟩) ?_
      simp (disch := omega) only [go_sem, ↓AH, g1, g2, g4, g9, g10, g67, g68, g69, hm0, hm1, hm2, hm3, hCW, hnn]
      (repeat (with_reducible refine Or.inr ?_))
      refine ⟨⟨hE _ _ _ (by simp (disch := omega) only [AA, if_neg, ho]) (by simp (disch := omega) only [AA, if_neg, hm2]) zO zO, hC.inOk zP rfl⟩, ?_⟩
      rw [← hQ]
      exact BE (id := 1) (x := .agg [lI 700 a, lI 700 s, .ref o i 0 i]) (ids := [o]) (.inl rfl) rfl EQ zV zV zU zU C6 (Ut (e := false) (g := true) zP zP (by simp (disch := omega) only [AA, if_neg, ho]) (by rw [FC, hql]) F0) (fun _ _ => Nat.zero_le _)
    ·have hna' : (a.all fun q => !decide (q < 0)) = false := by simpa [nonneg] using hna
     rw [hna', Bool.not_false] at wP
     simp only [if_neg hna]
     (refine Ac (W := ⟨fun _ => false, fun r => if r = 18 then some [(0, 0), (2, 7), (4, 7), (5, 7)] else none⟩) false AS Tryz.func43 rfl zK zL (AC ?_); generalize hQ : Post Tryz.prog Tryz.f43 _ _ _ _ _ = Q; simp only [stIn, matL, matA, st00])
     simp (disch := omega) only [go_sem, ↓AH, AE, hk, hka, hkr, AN, wA, wS, wP]
     (repeat (with_reducible refine Or.inr ?_))
     rw [← hQ]
     exact BE (id := 1) (x := .agg [.nil, .nil, .nil]) (ids := []) (.inl rfl) rfl EQ zV zV zU zU C6 (AL rfl) zS
 ·rw [netQ, if_neg hnet]
  unfold netOk at hnet
  rw [hk, hka, hkr] at hnet
  by_cases q1 : ka < 1
  ·(refine Ac (W := ⟨fun _ => false, fun r => if r = 18 then some [(0, 0), (2, 7), (4, 7), (5, 7)] else none⟩) false AS Tryz.func43 rfl zK zL (AC ?_); generalize hQ : Post Tryz.prog Tryz.f43 _ _ _ _ _ = Q; simp only [stIn, matL, matA, st00])
   simp (disch := omega) only [go_sem, ↓AH, AE, hk, hka, hkr, AN]
   (repeat (with_reducible refine Or.inr ?_))
   rw [← hQ]
   exact BE (id := 1) (x := .agg [.nil, .nil, .nil]) (ids := []) (.inl rfl) rfl EQ zV zV zU zU C6 (AL rfl) zS
  by_cases q2 : 6 < ka
  ·(refine Ac (W := ⟨fun _ => false, fun r => if r = 18 then some [(0, 0), (2, 7), (4, 7), (5, 7)] else none⟩) false AS Tryz.func43 rfl zK zL (AC ?_); generalize hQ : Post Tryz.prog Tryz.f43 _ _ _ _ _ = Q; simp only [stIn, matL, matA, st00])
   simp (disch := omega) only [go_sem, ↓AH, AE, hk, hka, hkr, AN]
   (repeat (with_reducible refine Or.inr ?_))
   rw [← hQ]
   exact BE (id := 1) (x := .agg [.nil, .nil, .nil]) (ids := []) (.inl rfl) rfl EQ zV zV zU zU C6 (AL rfl) zS
  by_cases q3 : k = ka
  ·(refine Ac (W := ⟨fun _ => false, fun r => if r = 18 then some [(0, 0), (2, 7), (4, 7), (5, 7)] else none⟩) false AS Tryz.func43 rfl zK zL (AC ?_); generalize hQ : Post Tryz.prog Tryz.f43 _ _ _ _ _ = Q; simp only [stIn, matL, matA, st00])
   simp (disch := omega) only [go_sem, ↓AH, AE, hk, hka, hkr, AN]
   (repeat (with_reducible refine Or.inr ?_))
   rw [← hQ]
   exact BE (id := 1) (x := .agg [.nil, .nil, .nil]) (ids := []) (.inl rfl) rfl EQ zV zV zU zU C6 (AL rfl) zS
  ·(refine Ac (W := ⟨fun _ => false, fun r => if r = 18 then some [(0, 0), (2, 7), (4, 7), (5, 7)] else none⟩) false AS Tryz.func43 rfl zK zL (AC ?_); generalize hQ : Post Tryz.prog Tryz.f43 _ _ _ _ _ = Q; simp only [stIn, matL, matA, st00])
   simp (disch := omega) only [go_sem, ↓AH, AE, hk, hka, hkr, AN]
   (repeat (with_reducible refine Or.inr ?_))
   rw [← hQ]
   exact BE (id := 1) (x := .agg [.nil, .nil, .nil]) (ids := []) (.inl rfl) rfl EQ zV zV zU zU C6 (AL rfl) zS

theorem PI {m : Ntw} : (netI m).pure = true := by
 unfold netI
 cases netQ m with
 | none => rfl
 | some x => simp [AV.pure, AV.pureL, F0]
theorem Gw {m : Ntw} (hs : m.small) : CW Tryz.prog 43 [m.av] (netI m) := cw zK (by simp [AV.pure, AV.pureL, AU, BR]) PI (LZ hs BR)
attribute [go_sem] Gw
end Go.Proofs.YthiddlfddncbmaaGreatDoor
