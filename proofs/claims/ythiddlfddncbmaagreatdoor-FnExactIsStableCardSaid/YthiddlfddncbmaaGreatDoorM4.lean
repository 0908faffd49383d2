/- Ground 4. -/
import Derived.Shelf.Pu.ParseUintPublic10
import Derived.Ground.MpProg
import Derived.Lib.AtoiErrMem
import Derived.Lib.ParseIntB
import Derived.Test.YthiddlfddncbmaaGreatDoorM3

set_option linter.unusedVariables false
set_option linter.unusedSimpArgs false
set_option maxRecDepth 100000
namespace Go.Proofs.YthiddlfddncbmaaGreatDoor
open Go

section
open Go.Shelf
def laysPu14_ren : Go.Shelf.Ren := ⟨fun | 14 => 143 | 16 => 158 | 17 => 159 | 19 => 172 | 20 => 173 | 21 => 174 | 22 => 175 | 23 => 176 | 24 => 177 | 25 => 182 | 27 => 184 | 26 => 183 | 28 => 185 | 29 => 186 | 30 => 148 | 31 => 149 | 32 => 150 | 33 => 151 | 35 => 162 | 34 => 161 | 36 => 163 | 37 => 164 | 38 => 165 | 39 => 178 | 40 => 179 | n => n, fun | 9 => 9 | 3 => 3 | 22 => 113 | 24 => 173 | 25 => 176 | 4 => 4 | 34 => 204 | 5 => 5 | 36 => 133 | 37 => 98 | 0 => 0 | 39 => 206 | 21 => 21 | 44 => 212 | 47 => 192 | 50 => 218 | 48 => 216 | 2 => 2 | 52 => 183 | 55 => 186 | 59 => 196 | 60 => 132 | 20 => 20 | 61 => 197 | 65 => 214 | 66 => 215 | 67 => 128 | n => n, fun | 0 => 2 | 1 => 3 | 2 => 0 | 3 => 4 | 4 => 5 | n => n⟩
theorem Qe : Go.Proofs.LaysPu.n14 Tryz.prog laysPu14_ren := {
 mixed := by kernel_rfl
 f14 := Tryz.func143.trans (congrArg some zK)
 f16 := Tryz.func158.trans (congrArg some zK)
 f17 := Tryz.func159.trans (congrArg some zK)
 f19 := Tryz.func172.trans (congrArg some zK)
 f20 := Tryz.func173.trans (congrArg some zK)
 f21 := Tryz.func174.trans (congrArg some zK)
 f22 := Tryz.func175.trans (congrArg some zK)
 f23 := Tryz.func176.trans (congrArg some zK)
 f24 := Tryz.func177.trans (congrArg some zK)
 f25 := Tryz.func182.trans (congrArg some zK)
 f26 := Tryz.func183.trans (congrArg some zK)
 f27 := Tryz.func184.trans (congrArg some zK)
 f28 := Tryz.func185.trans (congrArg some zK)
 f29 := Tryz.func186.trans (congrArg some zK)
 f30 := Tryz.func148.trans (congrArg some zK)
 f31 := Tryz.func149.trans (congrArg some zK)
 f32 := Tryz.func150.trans (congrArg some zK)
 f33 := Tryz.func151.trans (congrArg some zK)
 f34 := Tryz.func161.trans (congrArg some zK)
 f35 := Tryz.func162.trans (congrArg some zK)
 f36 := Tryz.func163.trans (congrArg some zK)
 f37 := Tryz.func164.trans (congrArg some zK)
 f38 := Tryz.func165.trans (congrArg some zK)
 f39 := Tryz.func178.trans (congrArg some zK)
 f40 := Tryz.func179.trans (congrArg some zK)
 t0 := Tryz.underlying0
 a0 := Tryz.isAgg0
 z0 := Tryz.sizeOf0
 v0 := Tryz.zeroValue0
 i0 := by kernel_rfl
 t2 := Tryz.underlying2
 a2 := Tryz.isAgg2
 z2 := Tryz.sizeOf2
 v2 := Tryz.zeroValue2
 i2 := by kernel_rfl
 t3 := Tryz.underlying3
 a3 := Tryz.isAgg3
 z3 := Tryz.sizeOf3
 v3 := Tryz.zeroValue3
 i3 := by kernel_rfl
 t4 := Tryz.underlying4
 a4 := Tryz.isAgg4
 z4 := Tryz.sizeOf4
 v4 := Tryz.zeroValue4
 i4 := by kernel_rfl
 t5 := Tryz.underlying5
 a5 := Tryz.isAgg5
 z5 := Tryz.sizeOf5
 v5 := Tryz.zeroValue5
 i5 := by kernel_rfl
 t9 := Tryz.underlying9
 a9 := Tryz.isAgg9
 z9 := Tryz.sizeOf9
 v9 := Tryz.zeroValue9
 i9 := by kernel_rfl
 t20 := Tryz.underlying20
 a20 := Tryz.isAgg20
 z20 := Tryz.sizeOf20
 v20 := Tryz.zeroValue20
 i20 := by kernel_rfl
 t21 := Tryz.underlying21
 a21 := Tryz.isAgg21
 z21 := Tryz.sizeOf21
 v21 := Tryz.zeroValue21
 i21 := by kernel_rfl
 t22 := Tryz.underlying113
 a22 := Tryz.isAgg113
 z22 := Tryz.sizeOf113
 v22 := Tryz.zeroValue113
 i22 := by kernel_rfl
 t24 := Tryz.underlying173
 a24 := Tryz.isAgg173
 z24 := Tryz.sizeOf173
 v24 := Tryz.zeroValue173
 i24 := by kernel_rfl
 t25 := Tryz.underlying176
 a25 := Tryz.isAgg176
 z25 := Tryz.sizeOf176
 v25 := Tryz.zeroValue176
 i25 := by kernel_rfl
 t34 := Tryz.underlying204
 a34 := Tryz.isAgg204
 z34 := Tryz.sizeOf204
 v34 := Tryz.zeroValue204
 i34 := by kernel_rfl
 c34 := by kernel_rfl
 t36 := Tryz.underlying133
 a36 := Tryz.isAgg133
 z36 := Tryz.sizeOf133
 v36 := Tryz.zeroValue133
 i36 := by kernel_rfl
 t37 := Tryz.underlying98
 a37 := Tryz.isAgg98
 z37 := Tryz.sizeOf98
 v37 := Tryz.zeroValue98
 i37 := by kernel_rfl
 t39 := Tryz.underlying206
 a39 := Tryz.isAgg206
 z39 := Tryz.sizeOf206
 v39 := Tryz.zeroValue206
 i39 := by kernel_rfl
 t44 := Tryz.underlying212
 a44 := Tryz.isAgg212
 z44 := Tryz.sizeOf212
 v44 := Tryz.zeroValue212
 i44 := by kernel_rfl
 t47 := Tryz.underlying192
 a47 := Tryz.isAgg192
 z47 := Tryz.sizeOf192
 v47 := Tryz.zeroValue192
 i47 := by kernel_rfl
 t48 := Tryz.underlying216
 a48 := Tryz.isAgg216
 z48 := Tryz.sizeOf216
 v48 := Tryz.zeroValue216
 i48 := by kernel_rfl
 t50 := Tryz.underlying218
 a50 := Tryz.isAgg218
 z50 := Tryz.sizeOf218
 v50 := Tryz.zeroValue218
 i50 := by kernel_rfl
 t52 := Tryz.underlying183
 a52 := Tryz.isAgg183
 z52 := Tryz.sizeOf183
 v52 := Tryz.zeroValue183
 i52 := by kernel_rfl
 t55 := Tryz.underlying186
 a55 := Tryz.isAgg186
 z55 := Tryz.sizeOf186
 v55 := Tryz.zeroValue186
 i55 := by kernel_rfl
 t59 := Tryz.underlying196
 a59 := Tryz.isAgg196
 z59 := Tryz.sizeOf196
 v59 := Tryz.zeroValue196
 i59 := by kernel_rfl
 t60 := Tryz.underlying132
 a60 := Tryz.isAgg132
 z60 := Tryz.sizeOf132
 v60 := Tryz.zeroValue132
 i60 := by kernel_rfl
 t61 := Tryz.underlying197
 a61 := Tryz.isAgg197
 z61 := Tryz.sizeOf197
 t65 := Tryz.underlying214
 a65 := Tryz.isAgg214
 z65 := Tryz.sizeOf214
 v65 := Tryz.zeroValue214
 i65 := by kernel_rfl
 t66 := Tryz.underlying215
 a66 := Tryz.isAgg215
 z66 := Tryz.sizeOf215
 v66 := Tryz.zeroValue215
 i66 := by kernel_rfl
 t67 := Tryz.underlying128
 a67 := Tryz.isAgg128
 z67 := Tryz.sizeOf128
 v67 := Tryz.zeroValue128
 i67 := by kernel_rfl
 g0 := by kernel_rfl
 m0 := by kernel_rfl
 g1 := by kernel_rfl
 m1 := by kernel_rfl
 g2 := by kernel_rfl
 m2 := by kernel_rfl
 g3 := by kernel_rfl
 m3 := by kernel_rfl
 g4 := by kernel_rfl
 m4 := by kernel_rfl }
end
section
open Go Go.RowKit
theorem Gk : callable Tryz.prog 143 = true := by kernel_rfl
def isDig (c : UInt8) : Bool := 48 ≤ c.toNat && c.toNat ≤ 57
def dval (s : List UInt8) : Nat := s.foldl (fun n c => 10 * n + (c.toNat - 48)) 0
theorem Oo (s : List UInt8) (a : Nat) : s.foldl (fun n c => 10 * n + (c.toNat - 48)) a = a * 10 ^ s.length + dval s := by
 induction s generalizing a with
 | nil => simp [dval]
 | cons c cs ih =>
  simp only [dval, List.foldl_cons, List.length_cons]
  rw [ih, ih (10 * 0 + (c.toNat - 48)), Nat.pow_succ]
  simp only [Nat.mul_zero, Nat.zero_add, Nat.add_mul]
  have : 10 * a * 10 ^ cs.length = a * (10 ^ cs.length * 10) := by rw [Nat.mul_comm 10 a, Nat.mul_assoc, Nat.mul_comm 10]
  omega
theorem CN (s t : List UInt8) : dval (s ++ t) = dval s * 10 ^ t.length + dval t := by
 rw [dval, List.foldl_append, Oo]; rfl
theorem Oq (s : List UInt8) (c : UInt8) : dval (s ++ [c]) = 10 * dval s + (c.toNat - 48) := by simp [dval]
theorem E5 {s : List UInt8} (h : ∀ c ∈ s, isDig c = true) : dval s < 10 ^ s.length := by
 induction s with
 | nil => simp [dval]
 | cons c cs ih =>
  have hc : c.toNat - 48 ≤ 9 := by have := h c zS; simp [isDig] at this; omega
  have := ih fun d hd => h d (by simp [hd])
  have e := CN [c] cs
  have e1 : dval [c] = c.toNat - 48 := by simp [dval]
  rw [List.singleton_append] at e
  rw [e, e1, List.length_cons, Nat.pow_succ]
  have : (c.toNat - 48) * 10 ^ cs.length ≤ 9 * 10 ^ cs.length := Nat.mul_le_mul_right _ hc
  omega
theorem Hm : ∀ (s : List UInt8) (acc : Nat), (∀ c ∈ s, isDig c = true) → acc * 10 ^ s.length + dval s < 1000000000000000000 → Lib.parseUintM (2 ^ 64 - 1) acc s = .ok (acc * 10 ^ s.length + dval s)
 | [], acc, _, _ => by simp [Lib.parseUintM, dval]
 | c :: cs, acc, h, hlt => by
  have hc := h c zS
  simp only [isDig, Bool.and_eq_true, decide_eq_true_eq] at hc
  have e := CN [c] cs
  have e1 : dval [c] = c.toNat - 48 := by simp [dval]
  rw [List.singleton_append, e1] at e
  have e2 : acc * 10 ^ (c :: cs).length + dval (c :: cs) = (acc * 10 + (c.toNat - 48)) * 10 ^ cs.length + dval cs := by
   rw [e, List.length_cons, Nat.pow_succ, Nat.add_mul, Nat.mul_comm (10 ^ cs.length) 10, Nat.mul_assoc]; omega
  rw [e2] at hlt ⊢
  have hp : 0 < 10 ^ cs.length := Nat.pow_pos zO
  have h3 : (acc * 10 + (c.toNat - 48)) * 1 ≤ (acc * 10 + (c.toNat - 48)) * 10 ^ cs.length := Nat.mul_le_mul_left _ hp
  simp only [Lib.parseUintM]
  have hbig : ¬ 2 ^ 64 - 1 < acc * 10 + (c.toNat - 48) := by
   have : (2 : Nat) ^ 64 - 1 = 18446744073709551615 := by decide
   omega
  rw [if_pos hc, if_neg zO, if_neg hbig]
  exact Hm cs _ (fun d hd => h d (by simp [hd])) hlt
theorem Gl (s : List UInt8) (h : ∀ c ∈ s, isDig c = true) (h0 : s ≠ []) (hl : s.length ≤ 18) : CallOk Tryz.prog 143 [.str s, .int .i64 10, .int .i64 64] (.tup [.int .u64 (dval s), .undef]) [] := by
 have hlt : dval s < 1000000000000000000 := Nat.lt_of_lt_of_le (E5 h) (Nat.le_trans (Nat.pow_le_pow_right zO hl) zD)
 refine EO (vals := [.string ⟨s.toArray⟩, .int .i64 10, .int .i64 64]) (v := .tuple #[.int .u64 (dval s), .nilIface]) (fun E => Dw (fun _ _ => NF) (Dw (fun _ _ => Jl) (Dw (fun _ _ => Jl) K0)))
  (fun E => by simp only [ownR]; exact ⟨[.int .u64 (dval s), .nilIface], rfl, by simp only [ownRL, ownR, rep]; exact ⟨_, _, [], [], rfl, rfl, ⟨rfl, rfl⟩, _, [], [], [], rfl, rfl, rfl, rfl, rfl⟩⟩) fun w => ?_
 have hp : Lib.parseUintB 64 s = .ok (dval s) := by
  have := Hm s 0 h (by simpa using hlt)
  rw [Nat.zero_mul, Nat.zero_add] at this
  rw [Lib.parseUintB, if_neg h0, this]
 refine (Any.strconv_ParseUint_10_at64_ok Qe ⟨s.toArray⟩ (by simp [ByteArray.size]; omega) (dval s) (by simpa using hp) w).mono ?_
 rintro e w' ⟨rfl, hw⟩
 refine ⟨rfl, ?_⟩
 rcases hw with rfl | rfl
 ·exact Below.refl _ _
 ·exact Lib.bytesWorld_below _ _ _
end
theorem Al : callable Tryz.prog 125 = true := by kernel_rfl
def tokD (s : List UInt8) : Bool := decide (1 ≤ s.length) && decide (s.length ≤ 200) && (decide (s.length = 1) || !(s.head? == some 48)) && s.all isDig
theorem CH {s : List UInt8} (h : tokD s = true) : 1 ≤ s.length ∧ s.length ≤ 200 ∧ ∀ c ∈ s, isDig c = true := by
 simp only [tokD, Bool.and_eq_true, decide_eq_true_eq, List.all_eq_true] at h
 exact ⟨h.1.1.1, h.1.1.2, h.2⟩
theorem Ca {B : Nat} (hB : 10 ≤ B) {s : List UInt8} (h : ∀ c ∈ s, isDig c = true) : (enc B (dval s)).length ≤ s.length :=
 Af zO (Nat.lt_of_lt_of_le (E5 h) (Nat.pow_le_pow_left hB _))
theorem G8 {k : Nat} (h : k ≤ 18) : 10 ^ k ≤ 1000000000000000000 := Nat.le_trans (Nat.pow_le_pow_right zO h) zD
def readNatV (s : List UInt8) : AV := if tokD s = true then .tup [natI (dval s), .bool true] else .tup [.nil, .bool false]
set_option maxHeartbeats 2000000 in
theorem Ix (s : List UInt8) (hs : s.length < 9223372036854775808) : CallOk Tryz.prog 125 [.str s] (readNatV s) [] := by
 have hbad : ∀ (h : tokD s = false), readNatV s = .tup [.nil, .bool false] := fun h => by rw [readNatV, h]; rfl
 by_cases h0 : s = []
 ·rw [hbad (by simp [h0, tokD])]
  subst h0
  (refine AB (W := fun _ => false) false AS Tryz.func125 rfl zK zL (AC ?_); generalize hQ : Post Tryz.prog Tryz.f125 _ _ _ _ _ = Q; simp only [stIn, matL, matA, st00])
  have e : (([] : List UInt8) == []) = true := rfl
  simp (disch := omega) only [go_sem, e]
  rw [← hQ]
  exact Ag (.inl rfl) rfl zV zV rfl rfl
 have e0 : (s == ([] : List UInt8)) = false := by simpa using h0
 have hl0 : 0 < s.length := List.length_pos_iff.2 h0
 by_cases h200 : 200 < s.length
 ·rw [hbad (by simp [tokD]; omega)]
  (refine AB (W := fun _ => false) false AS Tryz.func125 rfl zK zL (AC ?_); generalize hQ : Post Tryz.prog Tryz.f125 _ _ _ _ _ = Q; simp only [stIn, matL, matA, st00])
  simp (disch := omega) only [go_sem, e0]
  rw [← hQ]
  exact Ag (.inl rfl) rfl zV zV rfl rfl
 obtain ⟨c0, hc0⟩ := AI (xs := s) (i := 0) hl0
 have hc0' : s[Int.toNat 0]? = some c0 := hc0
 have hhead : s.head? = some c0 := by rw [List.head?_eq_getElem?]; exact hc0
 by_cases hz : c0.toNat = 48 ∧ 1 < s.length
 ·obtain ⟨hz1, hz2⟩ := hz
  have hc48 : c0 = 48 := UInt8.toNat.inj (by rw [hz1]; rfl)
  rw [hbad (by simp [tokD, hhead, hc48]; omega)]
  (refine AB (W := fun _ => false) false AS Tryz.func125 rfl zK zL (AC ?_); generalize hQ : Post Tryz.prog Tryz.f125 _ _ _ _ _ = Q; simp only [stIn, matL, matA, st00])
  simp (disch := omega) only [go_sem, e0, hc0', hz1]
  rw [← hQ]
  exact Ag (.inl rfl) rfl zV zV rfl rfl
 have htok : tokD s = s.all isDig := by
  have h1 : (decide (s.length = 1) || !(s.head? == some 48)) = true := by
   rw [hhead]
   by_cases hh : s.length = 1
   ·simp [hh]
   ·have : c0 ≠ 48 := fun e => hz ⟨by rw [e]; rfl, zO⟩
    simp [this]
  simp [tokD, h1]; intro _; omega
 have hls : s.length ≤ 200 := by omega
 have nat0 : natI 0 = .sl 132 [] [] false := by simp [natI, AZ, natA]
 have htrue : ∀ (h : s.all isDig = true), readNatV s = .tup [natI (dval s), .bool true] := fun h => by rw [readNatV, htok, h]; rfl
 (refine AB (W := fun _ => false) false AS Tryz.func125 rfl zK zL (AC ?_); generalize hQ : Post Tryz.prog Tryz.f125 _ _ _ _ _ = Q; simp only [stIn, matL, matA, st00])
 obtain ⟨R1, hR1⟩ : ∃ R : Nat → St → Prop, R = fun i st => st.fr 0 = .str s ∧ st.fr 4 = .sl 132 [] [] true ∧ st.fr 29 = .int .i64 s.length ∧ st.fr 30 = .int .i64 i ∧ i ≤ s.length ∧ ∀ c ∈ s.take i, isDig c = true := ⟨_, rfl⟩
 obtain ⟨R2, hR2⟩ : ∃ R : List UInt8 × List UInt8 → St → Prop, R = fun p st => st.fr 0 = .str p.2 ∧ p.1 ++ p.2 = s ∧ (st.fr 4 = natI (dval p.1) ∨ p.1 = [] ∧ st.fr 4 = .sl 132 [] [] true) ∧ ∀ c ∈ s, isDig c = true := ⟨_, rfl⟩
 rcases Nat.decEq c0.toNat 48 with h48 | h48
 ·simp (disch := omega) only [go_sem, e0, hc0']
  refine AM R1 (fun i => s.length - i) 0 (by rw [hR1]; exact ⟨zV, zV, zV, zV, zS, zS⟩) ?_
  rintro i ⟨fr, h, nx⟩ hst J hJ
  rw [hR1] at hst
  obtain ⟨g0, g4, g29, g30, hi, hdg⟩ := hst
  simp only at g0 g4 g29 g30
  by_cases hin : i < s.length
  ·obtain ⟨c, hc⟩ := AI (xs := s) (i := i) hin
   have hcb := c.toNat_lt
   cases hd : isDig c with
   | false =>
    have hnd : c.toNat < 48 ∨ 57 < c.toNat := by simp [isDig] at hd; omega
    rw [hbad (by rw [htok]; simp; exact ⟨c, List.mem_of_getElem? hc, hd⟩)] at hQ
    rcases hnd with hnd | hnd
    ·simp (disch := omega) only [go_sem, g0, g4, g29, g30, hc]
     rw [← hQ]
     exact Ag (.inl rfl) rfl zV zV rfl rfl
    ·simp (disch := omega) only [go_sem, g0, g4, g29, g30, hc]
     rw [← hQ]
     exact Ag (.inl rfl) rfl zV zV rfl rfl
   | true =>
    have hnd : 48 ≤ c.toNat ∧ c.toNat ≤ 57 := by simpa [isDig] using hd
    simp (disch := omega) only [go_sem, g0, g4, g29, g30, hc]
    refine hJ (i + 1) _ ?_ zO
    rw [hR1]
    refine ⟨(by simp [AA, g0] <;> omega), (by simp [AA, g4] <;> omega), (by simp [AA, g29] <;> omega), zV, hin, fun d hd' => ?_⟩
    rw [List.take_add_one, hc] at hd'
    rcases List.mem_append.1 hd' with h' | h'
    ·exact hdg d h'
    ·simp at h'; rw [h']; exact hd
  ·rw [List.take_of_length_le zO] at hdg
   clear hJ
   simp (disch := omega) only [go_sem, g0, g4, g29, g30]
   refine AM R2 (fun p => p.2.length) ([], s) (by rw [hR2]; exact ⟨(by simp [AA, g0] <;> omega), zS, .inr ⟨rfl, (by simp [AA, g4] <;> omega)⟩, hdg⟩) ?_
   clear g0 g4 g29 g30 hi hin
   rintro ⟨pre, rest⟩ ⟨fr, h, nx⟩ hst J hJ
   rw [hR2] at hst
   obtain ⟨g0, hps, g4, _⟩ := hst
   simp only at g0 hps g4
   have hpd : ∀ c ∈ pre, isDig c = true := fun c hc => hdg c (by rw [← hps]; simp [hc])
   have hrd : ∀ c ∈ rest, isDig c = true := fun c hc => hdg c (by rw [← hps]; simp [hc])
   have hlen : pre.length + rest.length = s.length := by rw [← hps]; simp
   rw [htrue (by simpa using hdg)] at hQ
   by_cases hr0 : rest = []
   ·subst hr0
    have er : (([] : List UInt8) == []) = true := rfl
    rw [List.append_nil] at hps
    subst hps
    rcases g4 with g4 | ⟨hp, _⟩
    ·simp (disch := omega) only [go_sem, g0, er, g4]
     rw [← hQ]
     exact Ag (.inl rfl) rfl (by simp [AA, g4] <;> omega) zV zS rfl
    ·exact absurd hp h0
   ·have er : (rest == []) = false := by simpa using hr0
    have hrl : 0 < rest.length := List.length_pos_iff.2 hr0
    obtain ⟨X, hX⟩ : ∃ X, fr 4 = X := ⟨_, rfl⟩
    rw [hX] at g4
    have hXp : X.pure = true := by rcases g4 with rfl | ⟨_, rfl⟩ <;> simp [AV.pure, AV.pureL]
    obtain ⟨k, hk, hk0, hk9⟩ : ∃ k, (if rest.length % 9 = 0 then 9 else rest.length % 9) = k ∧ 0 < k ∧ k ≤ 9 := ⟨_, rfl, by split <;> omega, by split <;> omega⟩
    have hkl : k ≤ rest.length := by split at hk <;> omega
    have hcd : ∀ c ∈ rest.take k, isDig c = true := fun c hc => hrd c (List.mem_of_mem_take hc)
    have hcl : (rest.take k).length = k := by simp; omega
    have hPU := Gl (rest.take k) hcd (fun e => by rw [e] at hcl; simp at hcl; omega) zO
    have hten := G8 (show k ≤ 18 by omega)
    have hcv : dval (rest.take k) < 1000000000000000000 := by have := E5 hcd; rw [hcl] at this; omega
    have hpe : (enc B32 (dval pre)).length ≤ 200 := Nat.le_trans (Ca zD hpd) zO
    have hte : (enc B32 (10 ^ k)).length ≤ 3 := Af AJ (by simp only [B32]; omega)
    have hce : (enc B32 (dval (rest.take k))).length ≤ 3 := Af AJ (by simp only [B32]; omega)
    have hmul : CallOk Tryz.prog 77 [X, natI (10 ^ k)] (natI (dval pre * 10 ^ k)) [] := by
     rcases g4 with rfl | ⟨rfl, rfl⟩
     ·exact Kv _ _ zO zO
     ·have := Kv 0 (10 ^ k) (by simp [AZ]) zO
      rw [show dval [] = 0 from rfl]
      rw [nat0] at this
      exact this.args (SubL.cons Cm (SubL.refl _))
    have hnew : dval pre * 10 ^ k + dval (rest.take k) = dval (pre ++ rest.take k) := by rw [CN, hcl]
    have hpm : (enc B32 (dval pre * 10 ^ k)).length ≤ 1099511627776 := by
     have : (enc B32 (dval pre * 10 ^ k)).length ≤ (enc B32 (dval (pre ++ rest.take k))).length := AX AJ (by rw [← hnew]; omega)
     have h2 := Ca (B := B32) zD (s := pre ++ rest.take k) (fun c hc => by rcases List.mem_append.1 hc with h | h; exact hpd c h; exact hcd c h)
     simp only [List.length_append] at h2; omega
    have hadd := Ji (dval pre * 10 ^ k) (dval (rest.take k)) hpm zO
    rw [hnew] at hadd
    have hfin : ∀ st : St, st.fr 0 = .str (rest.drop k) → st.fr 4 = natI (dval (pre ++ rest.take k)) → J st := fun st r0 r4 => hJ (pre ++ rest.take k, rest.drop k) st (by
     rw [hR2]; exact ⟨r0, by simp [hps], .inl r4, hdg⟩) zW
    clear hJ hR1 hR2 hbad htrue hQ hps
    simp (disch := omega) only [go_sem, ↓BX, g0, er, hX]; try unfold goB
    rw [Dg]
    obtain ⟨F, hF⟩ : ∃ F : St → Prop, F = fun st => st.fr 0 = .str rest ∧ st.fr 4 = X ∧ st.fr 6 = .int .i64 k := ⟨_, rfl⟩
    simp (disch := omega) only [go_sem, ↓Ci, g0, hX]; try unfold goS
    refine Do F ?_ ?_
    ·by_cases hk9' : rest.length % 9 = 0
     ·rw [if_pos hk9'] at hk
      simp (disch := omega) only [go_sem, g0, hX, hk9']
      rw [hF]; exact ⟨(by simp [AA, g0] <;> omega), (by simp [AA, hX] <;> omega), (by simp [AA, hk] <;> omega)⟩
     ·rw [if_neg hk9'] at hk
      simp (disch := omega) only [go_sem, g0, hX, hk]
      rw [hF]; exact ⟨(by simp [AA, g0] <;> omega), (by simp [AA, hX] <;> omega), (by simp [AA, hk] <;> omega)⟩
    clear hk
    rintro ⟨fr, h, nx⟩ hst
    rw [hF] at hst
    obtain ⟨g0, g4', g6⟩ := hst
    simp only at g0 g4' g6
    simp (disch := omega) only [go_sem, g0, g4', g6]
    refine AD hPU Gk zE zP zP ?_
    simp (disch := omega) only [go_sem, g0, g4', g6]
    refine AM (fun (i : Nat) st => st.fr 0 = .str rest ∧ st.fr 4 = X ∧ st.fr 6 = .int .i64 k ∧ st.fr 7 = .int .u64 (dval (rest.take k)) ∧ st.fr 9 = .int .u64 (10 ^ i : Nat) ∧ st.fr 58 = .int .i64 k ∧ st.fr 59 = .int .i64 i ∧ i ≤ k) (fun i => k - i) 0
     ⟨(by simp [AA, g0] <;> omega), (by simp [AA, g4'] <;> omega), (by simp [AA, g6] <;> omega), zV, zV, (by simp [AA, g6] <;> omega), zV, zO⟩ ?_
    rintro i ⟨fr, h, nx⟩ ⟨g0, g4', g6, g7, g9, g58, g59, hi⟩ J2 hJ2
    simp only at g0 g4' g6 g7 g9 g58 g59
    by_cases hik : i < k
    ·have h10 := G8 (show i ≤ 18 by omega)
     have hs10 : 10 ^ i * 10 = 10 ^ (i + 1) := rfl
     obtain ⟨z, hz'⟩ : ∃ z, 10 ^ i = z := ⟨_, rfl⟩
     rw [hz'] at h10 hs10 g9
     simp (disch := omega) only [go_sem, g0, g4', g6, g7, g9, g58, g59]
     exact hJ2 (i + 1) _ ⟨(by simp [AA, g0] <;> omega), (by simp [AA, g4'] <;> omega), (by simp [AA, g6] <;> omega), (by simp [AA, g7] <;> omega), (by simp [AA, hs10] <;> omega), (by simp [AA, g58] <;> omega), zV, hik⟩ zO
    ·obtain rfl : i = k := by omega
     simp (disch := omega) only [go_sem, g0, g4', g6, g7, g9, g58, g59]
     refine AD (EJ (10 ^ i) zO) Ao (by simp [evA, AA, ofVal, ofCell, g9]) zP zP ?_
     refine AD hmul QQ (by simp [evA, AA, g4']) (by simp [AV.pureL, hXp]) zS ?_
     simp (disch := omega) only [go_sem, g7]
     refine AD (EJ (dval (rest.take i)) zO) Ao (by simp [evA, AA, ofVal, ofCell, g7]) zP zP ?_
     refine AD (hadd) QP zE zP zP ?_
     simp (disch := omega) only [go_sem, g0, g6, List.take_length]
     exact hfin _ zV zV
 ·have hl1 : ¬ 1 < s.length := fun h => hz ⟨h48, h⟩
  simp (disch := omega) only [go_sem, e0, hc0', h48]
  refine AM R1 (fun i => s.length - i) 0 (by rw [hR1]; exact ⟨zV, zV, zV, zV, zS, zS⟩) ?_
  rintro i ⟨fr, h, nx⟩ hst J hJ
  rw [hR1] at hst
  obtain ⟨g0, g4, g29, g30, hi, hdg⟩ := hst
  simp only at g0 g4 g29 g30
  by_cases hin : i < s.length
  ·obtain ⟨c, hc⟩ := AI (xs := s) (i := i) hin
   have hcb := c.toNat_lt
   cases hd : isDig c with
   | false =>
    have hnd : c.toNat < 48 ∨ 57 < c.toNat := by simp [isDig] at hd; omega
    rw [hbad (by rw [htok]; simp; exact ⟨c, List.mem_of_getElem? hc, hd⟩)] at hQ
    rcases hnd with hnd | hnd
    ·simp (disch := omega) only [go_sem, g0, g4, g29, g30, hc]
     rw [← hQ]
     exact Ag (.inl rfl) rfl zV zV rfl rfl
    ·simp (disch := omega) only [go_sem, g0, g4, g29, g30, hc]
     rw [← hQ]
     exact Ag (.inl rfl) rfl zV zV rfl rfl
   | true =>
    have hnd : 48 ≤ c.toNat ∧ c.toNat ≤ 57 := by simpa [isDig] using hd
    simp (disch := omega) only [go_sem, g0, g4, g29, g30, hc]
    refine hJ (i + 1) _ ?_ zO
    rw [hR1]
    refine ⟨(by simp [AA, g0] <;> omega), (by simp [AA, g4] <;> omega), (by simp [AA, g29] <;> omega), zV, hin, fun d hd' => ?_⟩
    rw [List.take_add_one, hc] at hd'
    rcases List.mem_append.1 hd' with h' | h'
    ·exact hdg d h'
    ·simp at h'; rw [h']; exact hd
  ·rw [List.take_of_length_le zO] at hdg
   clear hJ
   simp (disch := omega) only [go_sem, g0, g4, g29, g30]
   refine AM R2 (fun p => p.2.length) ([], s) (by rw [hR2]; exact ⟨(by simp [AA, g0] <;> omega), zS, .inr ⟨rfl, (by simp [AA, g4] <;> omega)⟩, hdg⟩) ?_
   clear g0 g4 g29 g30 hi hin
   rintro ⟨pre, rest⟩ ⟨fr, h, nx⟩ hst J hJ
   rw [hR2] at hst
   obtain ⟨g0, hps, g4, _⟩ := hst
   simp only at g0 hps g4
   have hpd : ∀ c ∈ pre, isDig c = true := fun c hc => hdg c (by rw [← hps]; simp [hc])
   have hrd : ∀ c ∈ rest, isDig c = true := fun c hc => hdg c (by rw [← hps]; simp [hc])
   have hlen : pre.length + rest.length = s.length := by rw [← hps]; simp
   rw [htrue (by simpa using hdg)] at hQ
   by_cases hr0 : rest = []
   ·subst hr0
    have er : (([] : List UInt8) == []) = true := rfl
    rw [List.append_nil] at hps
    subst hps
    rcases g4 with g4 | ⟨hp, _⟩
    ·simp (disch := omega) only [go_sem, g0, er, g4]
     rw [← hQ]
     exact Ag (.inl rfl) rfl (by simp [AA, g4] <;> omega) zV zS rfl
    ·exact absurd hp h0
   ·have er : (rest == []) = false := by simpa using hr0
    have hrl : 0 < rest.length := List.length_pos_iff.2 hr0
    obtain ⟨X, hX⟩ : ∃ X, fr 4 = X := ⟨_, rfl⟩
    rw [hX] at g4
    have hXp : X.pure = true := by rcases g4 with rfl | ⟨_, rfl⟩ <;> simp [AV.pure, AV.pureL]
    obtain ⟨k, hk, hk0, hk9⟩ : ∃ k, (if rest.length % 9 = 0 then 9 else rest.length % 9) = k ∧ 0 < k ∧ k ≤ 9 := ⟨_, rfl, by split <;> omega, by split <;> omega⟩
    have hkl : k ≤ rest.length := by split at hk <;> omega
    have hcd : ∀ c ∈ rest.take k, isDig c = true := fun c hc => hrd c (List.mem_of_mem_take hc)
    have hcl : (rest.take k).length = k := by simp; omega
    have hPU := Gl (rest.take k) hcd (fun e => by rw [e] at hcl; simp at hcl; omega) zO
    have hten := G8 (show k ≤ 18 by omega)
    have hcv : dval (rest.take k) < 1000000000000000000 := by have := E5 hcd; rw [hcl] at this; omega
    have hpe : (enc B32 (dval pre)).length ≤ 200 := Nat.le_trans (Ca zD hpd) zO
    have hte : (enc B32 (10 ^ k)).length ≤ 3 := Af AJ (by simp only [B32]; omega)
    have hce : (enc B32 (dval (rest.take k))).length ≤ 3 := Af AJ (by simp only [B32]; omega)
    have hmul : CallOk Tryz.prog 77 [X, natI (10 ^ k)] (natI (dval pre * 10 ^ k)) [] := by
     rcases g4 with rfl | ⟨rfl, rfl⟩
     ·exact Kv _ _ zO zO
     ·have := Kv 0 (10 ^ k) (by simp [AZ]) zO
      rw [show dval [] = 0 from rfl]
      rw [nat0] at this
      exact this.args (SubL.cons Cm (SubL.refl _))
    have hnew : dval pre * 10 ^ k + dval (rest.take k) = dval (pre ++ rest.take k) := by rw [CN, hcl]
    have hpm : (enc B32 (dval pre * 10 ^ k)).length ≤ 1099511627776 := by
     have : (enc B32 (dval pre * 10 ^ k)).length ≤ (enc B32 (dval (pre ++ rest.take k))).length := AX AJ (by rw [← hnew]; omega)
     have h2 := Ca (B := B32) zD (s := pre ++ rest.take k) (fun c hc => by rcases List.mem_append.1 hc with h | h; exact hpd c h; exact hcd c h)
     simp only [List.length_append] at h2; omega
    have hadd := Ji (dval pre * 10 ^ k) (dval (rest.take k)) hpm zO
    rw [hnew] at hadd
    have hfin : ∀ st : St, st.fr 0 = .str (rest.drop k) → st.fr 4 = natI (dval (pre ++ rest.take k)) → J st := fun st r0 r4 => hJ (pre ++ rest.take k, rest.drop k) st (by
     rw [hR2]; exact ⟨r0, by simp [hps], .inl r4, hdg⟩) zW
    clear hJ hR1 hR2 hbad htrue hQ hps
    simp (disch := omega) only [go_sem, ↓BX, g0, er, hX]; try unfold goB
    rw [Dg]
    obtain ⟨F, hF⟩ : ∃ F : St → Prop, F = fun st => st.fr 0 = .str rest ∧ st.fr 4 = X ∧ st.fr 6 = .int .i64 k := ⟨_, rfl⟩
    simp (disch := omega) only [go_sem, ↓Ci, g0, hX]; try unfold goS
    refine Do F ?_ ?_
    ·by_cases hk9' : rest.length % 9 = 0
     ·rw [if_pos hk9'] at hk
      simp (disch := omega) only [go_sem, g0, hX, hk9']
      rw [hF]; exact ⟨(by simp [AA, g0] <;> omega), (by simp [AA, hX] <;> omega), (by simp [AA, hk] <;> omega)⟩
     ·rw [if_neg hk9'] at hk
      simp (disch := omega) only [go_sem, g0, hX, hk]
      rw [hF]; exact ⟨(by simp [AA, g0] <;> omega), (by simp [AA, hX] <;> omega), (by simp [AA, hk] <;> omega)⟩
    clear hk
    rintro ⟨fr, h, nx⟩ hst
    rw [hF] at hst
    obtain ⟨g0, g4', g6⟩ := hst
    simp only at g0 g4' g6
    simp (disch := omega) only [go_sem, g0, g4', g6]
    refine AD hPU Gk zE zP zP ?_
    simp (disch := omega) only [go_sem, g0, g4', g6]
    refine AM (fun (i : Nat) st => st.fr 0 = .str rest ∧ st.fr 4 = X ∧ st.fr 6 = .int .i64 k ∧ st.fr 7 = .int .u64 (dval (rest.take k)) ∧ st.fr 9 = .int .u64 (10 ^ i : Nat) ∧ st.fr 58 = .int .i64 k ∧ st.fr 59 = .int .i64 i ∧ i ≤ k) (fun i => k - i) 0
     ⟨(by simp [AA, g0] <;> omega), (by simp [AA, g4'] <;> omega), (by simp [AA, g6] <;> omega), zV, zV, (by simp [AA, g6] <;> omega), zV, zO⟩ ?_
    rintro i ⟨fr, h, nx⟩ ⟨g0, g4', g6, g7, g9, g58, g59, hi⟩ J2 hJ2
    simp only at g0 g4' g6 g7 g9 g58 g59
    by_cases hik : i < k
    ·have h10 := G8 (show i ≤ 18 by omega)
     have hs10 : 10 ^ i * 10 = 10 ^ (i + 1) := rfl
     obtain ⟨z, hz'⟩ : ∃ z, 10 ^ i = z := ⟨_, rfl⟩
     rw [hz'] at h10 hs10 g9
     simp (disch := omega) only [go_sem, g0, g4', g6, g7, g9, g58, g59]
     exact hJ2 (i + 1) _ ⟨(by simp [AA, g0] <;> omega), (by simp [AA, g4'] <;> omega), (by simp [AA, g6] <;> omega), (by simp [AA, g7] <;> omega), (by simp [AA, hs10] <;> omega), (by simp [AA, g58] <;> omega), zV, hik⟩ zO
    ·obtain rfl : i = k := by omega
     simp (disch := omega) only [go_sem, g0, g4', g6, g7, g9, g58, g59]
     refine AD (EJ (10 ^ i) zO) Ao (by simp [evA, AA, ofVal, ofCell, g9]) zP zP ?_
     refine AD hmul QQ (by simp [evA, AA, g4']) (by simp [AV.pureL, hXp]) zS ?_
     simp (disch := omega) only [go_sem, g7]
     refine AD (EJ (dval (rest.take i)) zO) Ao (by simp [evA, AA, ofVal, ofCell, g7]) zP zP ?_
     refine AD (hadd) QP zE zP zP ?_
     simp (disch := omega) only [go_sem, g0, g6, List.take_length]
     exact hfin _ zV zV
theorem Hn : callable Tryz.prog 102 = true := by kernel_rfl
def firstQ (s : List UInt8) : List UInt8 := match findB 47 s with | some i => s.take i | none => s
def digsQ (s : List UInt8) : List UInt8 := if headB 45 (firstQ s) = true then (firstQ s).tail else firstQ s
def parseQ (s : List UInt8) : Option (Bool × Nat × Nat) :=
 if tokD (digsQ s) = true ∧ ¬ (headB 45 (firstQ s) = true ∧ dval (digsQ s) = 0) then
  match findB 47 s with
  | none => some (headB 45 (firstQ s), dval (digsQ s), 1)
  | some i => if tokD (s.drop (i + 1)) = true ∧ 1 < dval (s.drop (i + 1)) ∧ Nat.gcd (dval (digsQ s)) (dval (s.drop (i + 1))) = 1 then some (headB 45 (firstQ s), dval (digsQ s), dval (s.drop (i + 1))) else none
 else none
def ratI (q : Bool × Nat × Nat) : AV := .agg [.bool q.1, natI q.2.1, natI q.2.2]
def zrI : AV := .agg [.bool false, .nil, .nil]
@[simp] theorem Wt (q : Bool × Nat × Nat) : (ratI q).pure = true := by simp [ratI, AV.pure, AV.pureL]
def readRatV (s : List UInt8) : AV := match parseQ s with | some q => .tup [ratI q, .bool true] | none => .tup [zrI, .bool false]
theorem DJ {P : Program} {fn : Func} {n0 : Nat} {fl : Bool} {t u : Tmp} {T id : Nat} {x r s : AV} {st : St} {e : Ex} (he : e = .ret ∨ e = .normal) (hr : fn.results.toList = [.cell t T, .tmp u]) (hok : okT P T = true) (hv : st.fr t = .ptr id 1 0 0) (hlv : (st.h id).lv = true) (hx : (st.h id).xs = [x])
  (hl : ldA P T x 0 = some r) (hw : st.fr u = s) (hp : r.pure = true) (hq : s.pure = true) : Post P fn n0 fl false (.tup [r, s]) [] e st := by
 refine ⟨by rcases he with rfl | rfl <;> trivial, .tup [r, s], by rw [hr]; simp [resV, resL, resA, hv, hw, hok, loadA, hlv, hx, hl], [], ?_, .inl rfl⟩
 simp only [Bool.false_eq_true, if_false]
 exact ⟨AL (by simp [AV.pure, AV.pureL, hp, hq]), zS⟩
theorem NG {b : Bool} {m n : Nat} : AV.el Tryz.prog 76 (.agg [.bool b, natI m, natI n]) = true := by simp [AV.el, EF, AV.cells, AV.one, natI]
theorem K7 {b : Bool} : AV.el Tryz.prog 76 (.agg [.bool b, .nil, .nil]) = true := by simp [AV.el, EF, AV.cells, AV.one]
theorem Qf {b : Bool} : AV.el Tryz.prog 4 (.bool b) = true := by simp [AV.el, P8, AV.cells, AV.one]
theorem Ar {b c d : AV} : ldA Tryz.prog 76 (.agg [b, c, d]) 0 = some (.agg [b, c, d]) := by simp [ldA, partA, HW, EF, AV.cells]
theorem Qg {b : Bool} {t t' : Nat} {xs sp xs' sp' : List AV} {ex ex' : Bool} : AV.el Tryz.prog 76 (.agg [.bool b, .sl t xs sp ex, .sl t' xs' sp' ex']) = true := by simp [AV.el, EF, AV.cells, AV.one]
theorem S7 {t : Nat} {xs sp : List AV} {ex : Bool} : AV.el Tryz.prog 74 (.sl t xs sp ex) = true := by simp [AV.el, Uh, AV.cells, AV.one]
attribute [go_sem] NG K7 Qf Ar Qg S7
theorem Iy (s : List UInt8) (hs : s.length < 9223372036854775808) : CallOk Tryz.prog 102 [.str s] (readRatV s) [] := by
 have hCut := XS s 47 hs
 have hfl : (firstQ s).length ≤ s.length := by unfold firstQ; split <;> simp; omega
 have hPre := K6 (firstQ s) 45 zO
 have hdl : (digsQ s).length ≤ s.length := by
  unfold digsQ; split
  ·simp; omega
  ·exact hfl
 have hN1 := Ix (digsQ s) zO
 rw [show (if headB 45 (firstQ s) = true then (firstQ s).tail else firstQ s) = digsQ s from rfl] at hPre
 have hfail : ∀ (st : St), st.fr 2 = .ptr 0 1 0 0 → (st.h 0).lv = true → (st.h 0).xs = [zrI] → st.fr 3 = .bool false → parseQ s = none → Post Tryz.prog Tryz.f102 (matL false [AV.str s] st00).2.nx (AV.flatL [AV.str s]) false (readRatV s) [] .ret st := by
  intro st k2 kl kx k3 hp
  rw [readRatV, hp]
  exact DJ (x := zrI) (.inl rfl) rfl BA k2 kl kx Ar k3 rfl rfl
 have hgood : ∀ (st : St) (q : Bool × Nat × Nat), st.fr 2 = .ptr 0 1 0 0 → (st.h 0).lv = true → (st.h 0).xs = [ratI q] → st.fr 3 = .bool true → parseQ s = some q → Post Tryz.prog Tryz.f102 (matL false [AV.str s] st00).2.nx (AV.flatL [AV.str s]) false (readRatV s) [] .ret st := by
  intro st q k2 kl kx k3 hp
  rw [readRatV, hp]
  exact DJ (x := ratI q) (.inl rfl) rfl BA k2 kl kx Ar k3 zS rfl
 have hone := EJ 1 zO
 have e0 : [AV.bool false, AV.nil, AV.nil].length = 3 := rfl
 obtain ⟨second, isS, hCut', hsec⟩ : ∃ (second : List UInt8) (isS : Bool), CallOk Tryz.prog 123 [.str s, .str [47]] (.tup [.str (firstQ s), .str second, .bool isS]) [] ∧ ((isS = false ∧ findB 47 s = none) ∨ ∃ i, isS = true ∧ findB 47 s = some i ∧ second = s.drop (i + 1)) := by
  unfold cutV at hCut
  cases hf : findB 47 s with
  | none => simp only [hf] at hCut; exact ⟨[], false, by simpa [firstQ, hf] using hCut, .inl ⟨rfl, rfl⟩⟩
  | some i => simp only [hf] at hCut; exact ⟨_, true, by simpa [firstQ, hf] using hCut, .inr ⟨i, rfl, rfl, rfl⟩⟩
 have hsl : second.length ≤ s.length ∨ isS = false := by
  rcases hsec with ⟨h, _⟩ | ⟨i, _, _, rfl⟩
  ·exact .inr h
  ·left; simp
 have htk : tokD (digsQ s) = true → (enc B32 (dval (digsQ s))).length ≤ 200 := fun h => by
  obtain ⟨_, b, c⟩ := CH h
  exact Nat.le_trans (Ca zD c) b
 obtain ⟨neg, hneg⟩ : ∃ neg, headB 45 (firstQ s) = neg := ⟨_, rfl⟩
 obtain ⟨fs, hfs⟩ : ∃ fs, firstQ s = fs := ⟨_, rfl⟩
 have hpq : parseQ s = if tokD (digsQ s) = true ∧ ¬ (neg = true ∧ dval (digsQ s) = 0) then
  match findB 47 s with
  | none => some (neg, dval (digsQ s), 1)
  | some i => if tokD (s.drop (i + 1)) = true ∧ 1 < dval (s.drop (i + 1)) ∧ Nat.gcd (dval (digsQ s)) (dval (s.drop (i + 1))) = 1 then some (neg, dval (digsQ s), dval (s.drop (i + 1))) else none
 else none := by rw [parseQ, hneg]
 obtain ⟨D, hD⟩ : ∃ D, digsQ s = D := ⟨_, rfl⟩
 rw [hD] at hPre hN1 htk hpq
 rw [hneg, hfs] at hPre
 rw [hfs] at hCut'
 clear hCut hfl hdl hneg
 cases htd : tokD D with
 | false =>
  rw [htd] at hpq
  simp only [Bool.false_eq_true, false_and, if_false] at hpq
  simp only [readNatV, htd, Bool.false_eq_true, if_false] at hN1
  (refine AB (W := fun _ => false) false AS Tryz.func102 rfl zK zL (AC ?_); generalize hQ : Post Tryz.prog Tryz.f102 _ _ _ _ _ = Q; simp only [stIn, matL, matA, st00])
  simp (disch := omega) only [go_sem, zrI, e0]
  refine AD (hCut') EP zE zP zP ?_
  simp (disch := omega) only [go_sem, natI]
  refine AD (hPre) A8 zE zP zP ?_
  simp (disch := omega) only [go_sem, natI]
  refine AD (hN1) Al zE zP zP ?_
  simp (disch := omega) only [go_sem, e0, natI]
  rw [← hQ]
  exact hfail _ zV zU (by simp [AA, zrI]) zV hpq
 | true =>
  have htl := htk htd
  simp only [readNatV, htd, if_true] at hN1
  rw [htd] at hpq
  simp only [true_and] at hpq
  obtain ⟨v, hv⟩ : ∃ v, dval D = v := ⟨_, rfl⟩
  rw [hv] at hN1 hpq htl
  by_cases hnz : neg = true ∧ v = 0
  ·obtain ⟨rfl, rfl⟩ := hnz
   simp only [and_self, not_true_eq_false, if_false] at hpq
   have hz : natI 0 = .sl 132 [] [] false := by simp [natI, AZ, natA]
   rw [hz] at hN1
   (refine AB (W := fun _ => false) false AS Tryz.func102 rfl zK zL (AC ?_); generalize hQ : Post Tryz.prog Tryz.f102 _ _ _ _ _ = Q; simp only [stIn, matL, matA, st00])
   simp (disch := omega) only [go_sem, zrI, e0]
   refine AD (hCut') EP zE zP zP ?_
   simp (disch := omega) only [go_sem, natI]
   refine AD (hPre) A8 zE zP zP ?_
   simp (disch := omega) only [go_sem, natI]
   refine AD (hN1) Al zE zP zP ?_
   simp (disch := omega) only [go_sem, e0, List.length_nil]
   rw [← hQ]
   exact hfail _ zV zU (by simp [AA, zrI]) zV hpq
  ·rw [if_pos hnz] at hpq
   have hvl : neg = true → 0 < (enc B32 v).length := fun h => A7 AJ (fun h0 => hnz ⟨h, h0⟩)
   have hzero : ∀ n : Nat, AV.el Tryz.prog 76 (.agg [.bool neg, natI v, natI n]) = true := fun n => NG
   rcases hsec with ⟨rfl, hf⟩ | ⟨i, rfl, hf, rfl⟩
   ·rw [hf] at hpq
    simp only at hpq
    cases neg with
    | false =>
     (refine AB (W := fun _ => false) false AS Tryz.func102 rfl zK zL (AC ?_); generalize hQ : Post Tryz.prog Tryz.f102 _ _ _ _ _ = Q; simp only [stIn, matL, matA, st00])
     simp (disch := omega) only [go_sem, zrI, e0]
     refine AD (hCut') EP zE zP zP ?_
     simp (disch := omega) only [go_sem, natI]
     refine AD (hPre) A8 zE zP zP ?_
     simp (disch := omega) only [go_sem, natI]
     refine AD (hN1) Al zE zP zP ?_
     simp (disch := omega) only [go_sem, natI]
     refine AD hone Ao zE zP zS ?_
     simp (disch := omega) only [go_sem, e0, natI, List.take_succ_cons, List.take_zero, Ar]
     rw [← hQ]
     refine hgood _ (_, v, 1) ?_ ?_ ?_ ?_ hpq
     ·exact zV
     ·simp [AA]
     ·simp only [AA, ↓reduceIte, ratI, natI]
     ·exact zV
    | true =>
     have hvl' := hvl rfl
     (refine AB (W := fun _ => false) false AS Tryz.func102 rfl zK zL (AC ?_); generalize hQ : Post Tryz.prog Tryz.f102 _ _ _ _ _ = Q; simp only [stIn, matL, matA, st00])
     simp (disch := omega) only [go_sem, zrI, e0]
     refine AD (hCut') EP zE zP zP ?_
     simp (disch := omega) only [go_sem, natI]
     refine AD (hPre) A8 zE zP zP ?_
     simp (disch := omega) only [go_sem, natI]
     refine AD (hN1) Al zE zP zP ?_
     simp (disch := omega) only [go_sem, natI]
     refine AD hone Ao zE zP zS ?_
     simp (disch := omega) only [go_sem, e0, natI, List.take_succ_cons, List.take_zero, Ar]
     rw [← hQ]
     refine hgood _ (_, v, 1) ?_ ?_ ?_ ?_ hpq
     ·exact zV
     ·simp [AA]
     ·simp only [AA, ↓reduceIte, ratI, natI]
     ·exact zV
   ·rw [hf] at hpq
    simp only at hpq
    have hsl' : (s.drop (i + 1)).length ≤ s.length := by simp
    have hN2 := Ix (s.drop (i + 1)) zO
    have htk2 : tokD (s.drop (i + 1)) = true → (enc B32 (dval (s.drop (i + 1)))).length ≤ 200 := fun h => by
     obtain ⟨_, b, c⟩ := CH h
     exact Nat.le_trans (Ca zD c) b
    have he1 : (enc B32 1).length ≤ 1 := Af AJ zD
    rcases Bool.eq_false_or_eq_true neg with rfl | rfl
    ·have hvl' := hvl rfl
     cases hte : tokD (s.drop (i + 1)) with
     | false =>
      simp only [hte, Bool.false_eq_true, false_and, if_false] at hpq
      simp only [readNatV, hte, Bool.false_eq_true, if_false] at hN2
      (refine AB (W := fun _ => false) false AS Tryz.func102 rfl zK zL (AC ?_); generalize hQ : Post Tryz.prog Tryz.f102 _ _ _ _ _ = Q; simp only [stIn, matL, matA, st00])
      simp (disch := omega) only [go_sem, zrI, e0]
      refine AD (hCut') EP zE zP zP ?_
      simp (disch := omega) only [go_sem, natI]
      refine AD (hPre) A8 zE zP zP ?_
      simp (disch := omega) only [go_sem, natI]
      refine AD (hN1) Al zE zP zP ?_
      simp (disch := omega) only [go_sem, natI]
      refine AD hone Ao zE zP zS ?_
      simp (disch := omega) only [go_sem, e0, natI]
      refine AD (hN2) Al zE zP zP ?_
      simp (disch := omega) only [go_sem, e0, natI]
      rw [← hQ]
      exact hfail _ zV zU (by simp [AA, zrI]) zV hpq
     | true =>
      have htl2 := htk2 hte
      simp only [hte, true_and] at hpq
      simp only [readNatV, hte, if_true] at hN2
      obtain ⟨u, hu⟩ : ∃ u, dval (s.drop (i + 1)) = u := ⟨_, rfl⟩
      rw [hu] at hN2 hpq htl2
      have hcmp := Gj u 1 zO zO
      have hgcd := Qa v u zO zO
      by_cases hu1 : 1 < u
      ·have hc1 : cmpI u 1 = 1 := Bx hu1
       rw [hc1] at hcmp
       obtain ⟨g, hg⟩ : ∃ g, Nat.gcd v u = g := ⟨_, rfl⟩
       rw [hg] at hgcd
       simp only [hg] at hpq
       have hgu : g ≤ u := by rw [← hg]; exact Nat.gcd_le_right v zO
       have hgl := AX AJ hgu
       have hcg := Gj g 1 zO zO
       by_cases hg1 : g = 1
       ·subst hg1
        rw [By] at hcg
        simp only [hu1, and_self, if_true] at hpq
        (refine AB (W := fun _ => false) false AS Tryz.func102 rfl zK zL (AC ?_); generalize hQ : Post Tryz.prog Tryz.f102 _ _ _ _ _ = Q; simp only [stIn, matL, matA, st00])
        simp (disch := omega) only [go_sem, zrI, e0]
        refine AD (hCut') EP zE zP zP ?_
        simp (disch := omega) only [go_sem, natI]
        refine AD (hPre) A8 zE zP zP ?_
        simp (disch := omega) only [go_sem, natI]
        refine AD (hN1) Al zE zP zP ?_
        simp (disch := omega) only [go_sem, natI]
        refine AD hone Ao zE zP zS ?_
        simp (disch := omega) only [go_sem, e0, natI]
        refine AD (hN2) Al zE zP zP ?_
        simp (disch := omega) only [go_sem, natI]
        refine AD hone Ao zE zP zS ?_
        simp (disch := omega) only [go_sem, natI]
        refine AD hcmp Co (by simp [evA, AA, natI]) (by simp [AV.pureL]) rfl ?_
        simp (disch := omega) only [go_sem, natI]
        refine AD hgcd Jk (by simp [evA, AA, natI]) (by simp [AV.pureL]) zS ?_
        simp (disch := omega) only [go_sem, natI]
        refine AD hone Ao zE zP zS ?_
        refine AD hcg Co (by simp [evA, AA, natI]) (by simp [AV.pureL]) rfl ?_
        simp (disch := omega) only [go_sem, e0, natI]
        rw [← hQ]
        refine hgood _ (_, v, u) ?_ ?_ ?_ ?_ hpq
        ·exact zV
        ·simp [AA]
        ·simp only [AA, ↓reduceIte, ratI, natI]
        ·exact zV
       ·have hcn : cmpI g 1 ≠ 0 := by
         rcases Nat.lt_trichotomy g 1 with h | h | h
         ·rw [BS h]; decide
         ·exact absurd h hg1
         ·rw [Bx h]; decide
        rw [if_neg (fun h => hg1 h.2)] at hpq
        (refine AB (W := fun _ => false) false AS Tryz.func102 rfl zK zL (AC ?_); generalize hQ : Post Tryz.prog Tryz.f102 _ _ _ _ _ = Q; simp only [stIn, matL, matA, st00])
        simp (disch := omega) only [go_sem, zrI, e0]
        refine AD (hCut') EP zE zP zP ?_
        simp (disch := omega) only [go_sem, natI]
        refine AD (hPre) A8 zE zP zP ?_
        simp (disch := omega) only [go_sem, natI]
        refine AD (hN1) Al zE zP zP ?_
        simp (disch := omega) only [go_sem, natI]
        refine AD hone Ao zE zP zS ?_
        simp (disch := omega) only [go_sem, e0, natI]
        refine AD (hN2) Al zE zP zP ?_
        simp (disch := omega) only [go_sem, natI]
        refine AD hone Ao zE zP zS ?_
        simp (disch := omega) only [go_sem, natI]
        refine AD hcmp Co (by simp [evA, AA, natI]) (by simp [AV.pureL]) rfl ?_
        simp (disch := omega) only [go_sem, natI]
        refine AD hgcd Jk (by simp [evA, AA, natI]) (by simp [AV.pureL]) zS ?_
        simp (disch := omega) only [go_sem, natI]
        refine AD hone Ao zE zP zS ?_
        refine AD hcg Co (by simp [evA, AA, natI]) (by simp [AV.pureL]) rfl ?_
        simp (disch := omega) only [go_sem, e0, natI]
        rw [← hQ]
        exact hfail _ zV zU (by simp [AA, zrI]) zV hpq
      ·have hc1 : cmpI u 1 ≤ 0 := by
        rcases Nat.lt_or_ge u 1 with h | h
        ·rw [BS h]; decide
        ·rw [show u = 1 by omega, By]; decide
       rw [if_neg (fun h => hu1 h.1)] at hpq
       (refine AB (W := fun _ => false) false AS Tryz.func102 rfl zK zL (AC ?_); generalize hQ : Post Tryz.prog Tryz.f102 _ _ _ _ _ = Q; simp only [stIn, matL, matA, st00])
       simp (disch := omega) only [go_sem, zrI, e0]
       refine AD (hCut') EP zE zP zP ?_
       simp (disch := omega) only [go_sem, natI]
       refine AD (hPre) A8 zE zP zP ?_
       simp (disch := omega) only [go_sem, natI]
       refine AD (hN1) Al zE zP zP ?_
       simp (disch := omega) only [go_sem, natI]
       refine AD hone Ao zE zP zS ?_
       simp (disch := omega) only [go_sem, e0, natI]
       refine AD (hN2) Al zE zP zP ?_
       simp (disch := omega) only [go_sem, natI]
       refine AD hone Ao zE zP zS ?_
       simp (disch := omega) only [go_sem, natI]
       refine AD hcmp Co (by simp [evA, AA, natI]) (by simp [AV.pureL]) rfl ?_
       simp (disch := omega) only [go_sem, e0, natI]
       rw [← hQ]
       exact hfail _ zV zU (by simp [AA, zrI]) zV hpq
    ·skip
     cases hte : tokD (s.drop (i + 1)) with
     | false =>
      simp only [hte, Bool.false_eq_true, false_and, if_false] at hpq
      simp only [readNatV, hte, Bool.false_eq_true, if_false] at hN2
      (refine AB (W := fun _ => false) false AS Tryz.func102 rfl zK zL (AC ?_); generalize hQ : Post Tryz.prog Tryz.f102 _ _ _ _ _ = Q; simp only [stIn, matL, matA, st00])
      simp (disch := omega) only [go_sem, zrI, e0]
      refine AD (hCut') EP zE zP zP ?_
      simp (disch := omega) only [go_sem, natI]
      refine AD (hPre) A8 zE zP zP ?_
      simp (disch := omega) only [go_sem, natI]
      refine AD (hN1) Al zE zP zP ?_
      simp (disch := omega) only [go_sem, natI]
      refine AD hone Ao zE zP zS ?_
      simp (disch := omega) only [go_sem, e0, natI]
      refine AD (hN2) Al zE zP zP ?_
      simp (disch := omega) only [go_sem, e0, natI]
      rw [← hQ]
      exact hfail _ zV zU (by simp [AA, zrI]) zV hpq
     | true =>
      have htl2 := htk2 hte
      simp only [hte, true_and] at hpq
      simp only [readNatV, hte, if_true] at hN2
      obtain ⟨u, hu⟩ : ∃ u, dval (s.drop (i + 1)) = u := ⟨_, rfl⟩
      rw [hu] at hN2 hpq htl2
      have hcmp := Gj u 1 zO zO
      have hgcd := Qa v u zO zO
      by_cases hu1 : 1 < u
      ·have hc1 : cmpI u 1 = 1 := Bx hu1
       rw [hc1] at hcmp
       obtain ⟨g, hg⟩ : ∃ g, Nat.gcd v u = g := ⟨_, rfl⟩
       rw [hg] at hgcd
       simp only [hg] at hpq
       have hgu : g ≤ u := by rw [← hg]; exact Nat.gcd_le_right v zO
       have hgl := AX AJ hgu
       have hcg := Gj g 1 zO zO
       by_cases hg1 : g = 1
       ·subst hg1
        rw [By] at hcg
        simp only [hu1, and_self, if_true] at hpq
        (refine AB (W := fun _ => false) false AS Tryz.func102 rfl zK zL (AC ?_); generalize hQ : Post Tryz.prog Tryz.f102 _ _ _ _ _ = Q; simp only [stIn, matL, matA, st00])
        simp (disch := omega) only [go_sem, zrI, e0]
        refine AD (hCut') EP zE zP zP ?_
        simp (disch := omega) only [go_sem, natI]
        refine AD (hPre) A8 zE zP zP ?_
        simp (disch := omega) only [go_sem, natI]
        refine AD (hN1) Al zE zP zP ?_
        simp (disch := omega) only [go_sem, natI]
        refine AD hone Ao zE zP zS ?_
        simp (disch := omega) only [go_sem, e0, natI]
        refine AD (hN2) Al zE zP zP ?_
        simp (disch := omega) only [go_sem, natI]
        refine AD hone Ao zE zP zS ?_
        simp (disch := omega) only [go_sem, natI]
        refine AD hcmp Co (by simp [evA, AA, natI]) (by simp [AV.pureL]) rfl ?_
        simp (disch := omega) only [go_sem, natI]
        refine AD hgcd Jk (by simp [evA, AA, natI]) (by simp [AV.pureL]) zS ?_
        simp (disch := omega) only [go_sem, natI]
        refine AD hone Ao zE zP zS ?_
        refine AD hcg Co (by simp [evA, AA, natI]) (by simp [AV.pureL]) rfl ?_
        simp (disch := omega) only [go_sem, e0, natI]
        rw [← hQ]
        refine hgood _ (_, v, u) ?_ ?_ ?_ ?_ hpq
        ·exact zV
        ·simp [AA]
        ·simp only [AA, ↓reduceIte, ratI, natI]
        ·exact zV
       ·have hcn : cmpI g 1 ≠ 0 := by
         rcases Nat.lt_trichotomy g 1 with h | h | h
         ·rw [BS h]; decide
         ·exact absurd h hg1
         ·rw [Bx h]; decide
        rw [if_neg (fun h => hg1 h.2)] at hpq
        (refine AB (W := fun _ => false) false AS Tryz.func102 rfl zK zL (AC ?_); generalize hQ : Post Tryz.prog Tryz.f102 _ _ _ _ _ = Q; simp only [stIn, matL, matA, st00])
        simp (disch := omega) only [go_sem, zrI, e0]
        refine AD (hCut') EP zE zP zP ?_
        simp (disch := omega) only [go_sem, natI]
        refine AD (hPre) A8 zE zP zP ?_
        simp (disch := omega) only [go_sem, natI]
        refine AD (hN1) Al zE zP zP ?_
        simp (disch := omega) only [go_sem, natI]
        refine AD hone Ao zE zP zS ?_
        simp (disch := omega) only [go_sem, e0, natI]
        refine AD (hN2) Al zE zP zP ?_
        simp (disch := omega) only [go_sem, natI]
        refine AD hone Ao zE zP zS ?_
        simp (disch := omega) only [go_sem, natI]
        refine AD hcmp Co (by simp [evA, AA, natI]) (by simp [AV.pureL]) rfl ?_
        simp (disch := omega) only [go_sem, natI]
        refine AD hgcd Jk (by simp [evA, AA, natI]) (by simp [AV.pureL]) zS ?_
        simp (disch := omega) only [go_sem, natI]
        refine AD hone Ao zE zP zS ?_
        refine AD hcg Co (by simp [evA, AA, natI]) (by simp [AV.pureL]) rfl ?_
        simp (disch := omega) only [go_sem, e0, natI]
        rw [← hQ]
        exact hfail _ zV zU (by simp [AA, zrI]) zV hpq
      ·have hc1 : cmpI u 1 ≤ 0 := by
        rcases Nat.lt_or_ge u 1 with h | h
        ·rw [BS h]; decide
        ·rw [show u = 1 by omega, By]; decide
       rw [if_neg (fun h => hu1 h.1)] at hpq
       (refine AB (W := fun _ => false) false AS Tryz.func102 rfl zK zL (AC ?_); generalize hQ : Post Tryz.prog Tryz.f102 _ _ _ _ _ = Q; simp only [stIn, matL, matA, st00])
       simp (disch := omega) only [go_sem, zrI, e0]
       refine AD (hCut') EP zE zP zP ?_
       simp (disch := omega) only [go_sem, natI]
       refine AD (hPre) A8 zE zP zP ?_
       simp (disch := omega) only [go_sem, natI]
       refine AD (hN1) Al zE zP zP ?_
       simp (disch := omega) only [go_sem, natI]
       refine AD hone Ao zE zP zS ?_
       simp (disch := omega) only [go_sem, e0, natI]
       refine AD (hN2) Al zE zP zP ?_
       simp (disch := omega) only [go_sem, natI]
       refine AD hone Ao zE zP zS ?_
       simp (disch := omega) only [go_sem, natI]
       refine AD hcmp Co (by simp [evA, AA, natI]) (by simp [AV.pureL]) rfl ?_
       simp (disch := omega) only [go_sem, e0, natI]
       rw [← hQ]
       exact hfail _ zV zU (by simp [AA, zrI]) zV hpq
@[simp] theorem VU : zrI.pure = true := rfl
theorem YD : callable Tryz.prog 68 = true := by kernel_rfl
def strA (xs : List (List UInt8)) : List AV := xs.map .str
theorem AE (xs : List (List UInt8)) : (strA xs).length = xs.length := by simp [strA]
theorem AQ {xs : List (List UInt8)} {i : Nat} : (strA xs)[i]? = (xs[i]?).map AV.str := by simp [strA]
@[simp] theorem AU (xs : List (List UInt8)) : AV.pureL (strA xs) = true := by induction xs <;> simp_all [strA, AV.pureL, AV.pure]
abbrev Qd := Bool × Nat × Nat
def listQ (xs : List (List UInt8)) : Option (List Qd) := if 300 < xs.length then none else xs.mapM parseQ
def ratsI (qs : List Qd) : AV := .sl 76 (qs.map ratI) [] false
def listI (o : Option (List Qd)) : AV := match o with | some qs => .tup [ratsI qs, .bool true] | none => .tup [.nil, .bool false]
theorem Ot (qs : List Qd) : AV.pureL (qs.map ratI) = true := by induction qs <;> simp_all [AV.pureL]
theorem Dx {α β : Type} {f : α → Option β} {xs : List α} {i : Nat} {x : α} {y : β} {ys : List β} (h : (xs.take i).mapM f = some ys) (hx : xs[i]? = some x) (hy : f x = some y) : (xs.take (i + 1)).mapM f = some (ys ++ [y]) := by
 rw [List.take_add_one, hx, List.mapM_append, h]; simp [hy]
theorem DK {α β : Type} {f : α → Option β} {xs : List α} {i : Nat} {x : α} (hx : xs[i]? = some x) (hy : f x = none) : xs.mapM f = none := by
 have : xs = xs.take i ++ x :: xs.drop (i + 1) := by rw [← Ak hx, List.take_append_drop]
 rw [this, List.mapM_append]
 cases (xs.take i).mapM f <;> simp [hy]
theorem Ft {α β : Type} {f : α → Option β} : ∀ {xs : List α} {ys : List β}, xs.mapM f = some ys → ys.length = xs.length
 | [], ys, h => by simp at h; subst h; rfl
 | x :: xs, ys, h => by
  simp only [List.mapM_cons] at h
  cases hx : f x with
  | none => simp [hx] at h
  | some y =>
   cases hxs : xs.mapM f with
   | none => simp [hx, hxs] at h
   | some zs => simp [hx, hxs] at h; subst h; simp [Ft hxs]
theorem VV (xs : List (List UInt8)) (hl : xs.length < 9223372036854775808) (hs : ∀ x ∈ xs, x.length < 9223372036854775808) : CallOk Tryz.prog 68 [.sl 9 (strA xs) [] false] (listI (listQ xs)) [] := by
 by_cases h300 : 300 < xs.length
 ·rw [listQ, if_pos h300]
  (refine AB (W := fun _ => false) false AS Tryz.func68 rfl zK zL (AC ?_); generalize hQ : Post Tryz.prog Tryz.f68 _ _ _ _ _ = Q; simp only [stIn, matL, matA, st00])
  simp (disch := omega) only [go_sem, AE]
  rw [← hQ]
  exact Ag (.inl rfl) rfl zV zV rfl rfl
 rw [listQ, if_neg h300]
 obtain ⟨n, hn⟩ : ∃ n, xs.length = n := ⟨_, rfl⟩
 rw [hn] at h300 hl
 (refine AB (W := fun _ => false) false AS Tryz.func68 rfl zK zL (AC ?_); generalize hQ : Post Tryz.prog Tryz.f68 _ _ _ _ _ = Q; simp only [stIn, matL, matA, st00])
 simp (disch := omega) only [go_sem, AE, hn]
 obtain ⟨R, hR⟩ : ∃ R : Nat × List Qd → St → Prop, R = fun p st => st.fr 4 = .ref 0 p.2.length 0 p.2.length ∧ st.fr 13 = .sl 9 (strA xs) [] false ∧ st.fr 14 = .int .i64 n ∧ st.fr 15 = .int .i64 p.1 ∧ (∃ ex, st.h 0 = ⟨76, p.2.map ratI, ex, true, true⟩) ∧ 0 < st.nx ∧ p.1 ≤ n ∧ (xs.take p.1).mapM parseQ = some p.2 := ⟨_, rfl⟩
 refine AM R (fun p => n - p.1) (0, []) (by rw [hR]; exact ⟨zV, zV, zV, zV, ⟨true, zU⟩, zS, zS, zS⟩) ?_
 rintro ⟨i, qs⟩ ⟨fr, h, nx⟩ hst J hJ
 rw [hR] at hst
 obtain ⟨g4, g13, g14, g15, ⟨ex, hm⟩, hnx, hi, hq⟩ := hst
 simp only at g4 g13 g14 g15 hm hnx hi hq
 have hql : qs.length = i := by have := Ft hq; simp at this; omega
 have n1 : (0 = nx) = False := by simp; omega
 have n2 : (nx = 0) = False := by simp; omega
 have hml : (qs.map ratI).length = i := by simp [hql]
 by_cases hin : i < n
 ·obtain ⟨x, hx⟩ := AI (xs := xs) (i := i) zO
  have hrd := Iy x (hs x (List.mem_of_getElem? hx))
  cases hp : parseQ x with
  | none =>
   rw [DK hx hp] at hQ
   simp only [readRatV, hp] at hrd
   simp (disch := omega) only [go_sem, g4, g13, g14, g15, AQ, hx, AE, hn]
   refine AD (hrd) Hn (by simp [evA, AA, ofVal, ofCell, zrI]) zP zP ?_
   simp (disch := omega) only [go_sem, g4, g13, g14, g15, zrI, K7, List.length_cons, List.length_nil, Nat.reduceAdd]
   rw [← hQ]
   exact Ag (.inl rfl) rfl zV zV rfl rfl
  | some q =>
   simp only [readRatV, hp] at hrd
   have hmt := Dx hq hx hp
   have hfin : ∀ st : St, st.fr 4 = .ref 0 (i + 1) 0 (i + 1) → st.fr 13 = .sl 9 (strA xs) [] false → st.fr 14 = .int .i64 n → st.fr 15 = .int .i64 ((i + 1 : Nat) : Int) → (∃ ex, st.h 0 = ⟨76, qs.map ratI ++ [ratI q], ex, true, true⟩) → 0 < st.nx → J st := by
    intro st r4 r13 r14 r15 rh rn
    refine hJ (i + 1, qs ++ [q]) st ?_ zT
    rw [hR]
    refine ⟨by simpa [hql] using r4, r13, r14, r15, by simpa using rh, rn, hin, hmt⟩
   clear hJ hmt hR hQ hq hs
   rw [hql] at g4
   simp (disch := omega) only [go_sem, g4, g13, g14, g15, AQ, hx, AE, hn]
   refine AD (hrd) Hn (by simp [evA, AA, ofVal, ofCell, zrI]) zP zP ?_
   simp (disch := omega) only [go_sem, g4, g13, g14, g15, ratI, natI, List.length_cons, List.length_nil, Nat.reduceAdd, List.take_succ_cons, List.take_zero, n1, n2, hm, hml, reach]
   exact hfin _ zV (by simp [AA, g13] <;> omega) (by simp [AA, g14] <;> omega) zV ⟨false, by simp [AA, n1, n2, hm, ratI, natI]⟩ zS
 ·obtain rfl : i = n := by omega
  rw [List.take_of_length_le zO] at hq
  rw [hq] at hQ
  simp (disch := omega) only [go_sem, g4, g13, g14, g15]
  rw [← hQ]
  have hfz : snapA (⟨_, h, nx⟩ : St) 7 (.ref 0 qs.length 0 qs.length) = some (.sl 76 (qs.map ratI) [] false, [0]) := Av (st := ⟨fr, h, nx⟩) (d := 6) (by simp [hm]) (by simp [hm]) (by simp [hm]) zS (by simp [hm]; exact List.take_of_length_le zS) (Ot qs)
  exact EX (.inl rfl) rfl zV zV hfz (AL rfl) (fun a _ => Nat.zero_le _) (.inl rfl)
theorem NH : callable Tryz.prog 109 = true := by kernel_rfl
theorem A2 : callable Tryz.prog 108 = true := by kernel_rfl
theorem As : callable Tryz.prog 107 = true := by kernel_rfl
theorem BK : callable Tryz.prog 106 = true := by kernel_rfl
theorem Qh (a b : Nat) (ha : (enc B9 a).length ≤ 1099511627775) (hb : (enc B9 b).length ≤ 1099511627775) : CallOk Tryz.prog 109 [natS a, natS b] (natS (Nat.gcd a b)) [] := by
 (refine AB (W := fun _ => false) false AS Tryz.func109 rfl zK zL (AC ?_); generalize hQ : Post Tryz.prog Tryz.f109 _ _ _ _ _ = Q; simp only [stIn, matL, matA, st00, natS])
 simp (disch := omega) only [go_sem]
 refine AM (fun (p : Nat × Nat) st => st.fr 0 = natS p.1 ∧ st.fr 1 = natS p.2 ∧ Nat.gcd p.1 p.2 = Nat.gcd a b ∧ (enc B9 p.1).length ≤ 1099511627775 ∧ (enc B9 p.2).length ≤ 1099511627775) (fun p => p.2) (a, b)
  ⟨(by simp [AA, natS] <;> omega), (by simp [AA, natS] <;> omega), rfl, ha, hb⟩ ?_
 rintro ⟨x, y⟩ ⟨fr, h, nx⟩ ⟨h0, h1, hg, hx, hy⟩ J hJ
 simp only [natS] at h0 h1 hg hx hy
 by_cases hy0 : y = 0
 ·subst hy0
  rw [Nat.gcd_zero_right] at hg
  rw [AZ] at h1
  simp (disch := omega) only [go_sem, h0, h1, List.length_nil]
  rw [← hQ]
  exact AG (.inl rfl) rfl (by simp [AA, h0, natS, hg] <;> omega) zS
 ·have hyl := A7 AR hy0
  have hK : (enc B9 (x % y)).length ≤ 1099511627775 := Nat.le_trans (AX AR (Nat.le_of_lt (Nat.mod_lt _ zO))) hy
  simp (disch := omega) only [go_sem, h0, h1]
  refine AD (Kz x y hx hy0 hy) Qb (by simp [evA, AA, ofVal, ofCell, natS, h0, h1]) zP zP ?_
  simp (disch := omega) only [go_sem, h0, h1]
  exact hJ (y, x % y) _ ⟨(by simp [AA, natS] <;> omega), zV, by rw [← hg]; exact Hk x y, hy, hK⟩ (Nat.mod_lt _ zO)
theorem MG {s : List UInt8} {to frm : Nat} (hft : frm ≤ to) (ht : to ≤ s.length) : dval (s.drop frm) = dval ((s.take to).drop frm) * 10 ^ (s.length - to) + dval (s.drop to) := by
 have : s.drop frm = (s.take to).drop frm ++ s.drop to := by
  conv => lhs; rw [← List.take_append_drop to s, List.drop_append]
  congr 1
  rw [List.length_take, Nat.min_eq_left ht, show frm - to = 0 by omega, List.drop_zero]
 rw [this, CN]; simp
theorem YL (k : Nat) : B9 ^ k = 10 ^ (9 * k) := by rw [Nat.pow_mul]; rfl
theorem FT {st : St} {id n len T : Nat} {k : IntKind} {xs : List Nat} {ex : Bool} (h : st.h id = ⟨T, natA k xs, ex, true, true⟩) (hn : xs.length = n) (hl : len ≤ n) :
  snapL (snapA st 8) [.ref id n 0 len] = some ([.sl T (natA k (xs.take len)) [] false], [id]) := by
 have := Av (st := st) (d := 7) (id := id) (n := n) (off := 0) (len := len) (T := T) (r := natA k (xs.take len)) (by rw [h]) (by rw [h, AF, hn]) (by rw [h]) zO (by rw [h, List.drop_zero, Ay]) (Ae _ _)
 simp [snapL, this]
theorem E6 (s : List UInt8) (h : ∀ c ∈ s, isDig c = true) (hl : s.length ≤ 1000000) : CallOk Tryz.prog 108 [.str s] (natS (dval s)) [] := by
 (refine AB (W := fun g => g == 110) false AS Tryz.func108 rfl zK zL (AC ?_); generalize hQ : Post Tryz.prog Tryz.f108 _ _ _ _ _ = Q; simp only [stIn, matL, matA, st00])
 have hB : B9 = 1000000000 := rfl
 simp (disch := omega) only [go_sem]
 obtain ⟨R, hR⟩ : ∃ R : Int × List Nat → St → Prop, R = fun p st => st.fr 0 = .str s ∧ st.fr 3 = .ref 0 p.2.length 0 p.2.length ∧ st.fr 4 = .int .i64 p.1 ∧ (∃ ex, st.h 0 = ⟨2, natA .i64 p.2, ex, true, true⟩) ∧ p.1 ≤ (s.length : Int) ∧ -9 ≤ p.1 ∧ (∀ q ∈ p.2, q < B9) ∧
   val B9 p.2 = dval (s.drop p.1.toNat) ∧ (0 < p.1 → s.length - p.1.toNat = 9 * p.2.length) ∧ p.2.length ≤ s.length := ⟨_, rfl⟩
 refine AM R (fun p => p.1.toNat) (s.length, []) (by rw [hR]; exact ⟨zV, zV, zV, ⟨true, by simp [AA, natA]⟩, zS, zT, zS, by simp [val, dval], zS, zS⟩) ?_
 rintro ⟨to, ds⟩ ⟨fr, hh, nx⟩ hst J hJ
 rw [hR] at hst
 obtain ⟨g0, g3, g4, ⟨ex, hm⟩, ht1, ht2, hq, hv, h9, hdl⟩ := hst
 simp only at g0 g3 g4 hm ht1 ht2 hq hv h9 hdl
 by_cases hpos : 0 < to
 ·obtain ⟨t, rfl⟩ : ∃ t : Nat, to = t := ⟨to.toNat, zO⟩
  rw [Int.toNat_natCast] at hv h9
  have ht : 0 < t := by omega
  have htl : t ≤ s.length := by omega
  have h9' := h9 hpos
  obtain ⟨f, hf, hf1, hf2⟩ : ∃ f : Nat, (if 9 < t then t - 9 else 0) = f ∧ f < t ∧ t - f ≤ 9 := ⟨_, rfl, by split <;> omega, by split <;> omega⟩
  have hchunk : ((s.take t).drop f).length = t - f := by simp; omega
  have hcd : ∀ c ∈ (s.take t).drop f, isDig c = true := fun c hc => h c (List.mem_of_mem_take (List.mem_of_mem_drop hc))
  obtain ⟨v, hvv⟩ : ∃ v, dval ((s.take t).drop f) = v := ⟨_, rfl⟩
  have hvB : v < 1000000000 := by
   have := E5 hcd; rw [hchunk, hvv] at this
   exact Nat.lt_of_lt_of_le this (Nat.le_trans (Nat.pow_le_pow_right zO hf2) zD)
  have hgrp := MG (s := s) (Nat.le_of_lt hf1) htl
  rw [hvv] at hgrp
  have hfin : ∀ st : St, st.fr 0 = .str s → st.fr 3 = .ref 0 (ds.length + 1) 0 (ds.length + 1) → st.fr 4 = .int .i64 ((t : Int) - 9) → (∃ ex, st.h 0 = ⟨2, natA .i64 (ds ++ [v]), ex, true, true⟩) → J st := by
   intro st r0 r3 r4 rh
   refine hJ ((t : Int) - 9, ds ++ [v]) st ?_ zT
   rw [hR]
   refine ⟨r0, by simpa using r3, r4, rh, zT, zT, ?_, ?_, ?_, zW⟩
   ·intro q hq'; rcases List.mem_append.1 hq' with h' | h'
    ·exact hq q h'
    ·simp at h'; rw [h', hB]; exact hvB
   ·have e : ((t : Int) - 9).toNat = f := by split at hf <;> omega
    simp only
    rw [e, hgrp, At, hv, YL, ← h9']; simp only [val, Nat.mul_zero, Nat.add_zero]
    rw [Nat.mul_comm, Nat.add_comm]
   ·intro h'; simp only at h' ⊢
    simp only [List.length_append, List.length_cons, List.length_nil]; omega
  clear hJ hR hQ hv h9 hq
  simp (disch := omega) only [go_sem, ↓BX, g0, g3, g4]; try unfold goB
  rw [Dg]
  obtain ⟨F, hF⟩ : ∃ F : St → Prop, F = fun st => st.fr 0 = .str s ∧ st.fr 3 = .ref 0 ds.length 0 ds.length ∧ st.fr 4 = .int .i64 t ∧ st.fr 5 = .int .i64 f ∧ st.h = hh := ⟨_, rfl⟩
  simp (disch := omega) only [go_sem, ↓Ci, g0, g3, g4]; try unfold goS
  refine Do F ?_ ?_
  ·by_cases h9t : 9 < t
   ·rw [if_pos h9t] at hf
    have e : (t : Int) - 9 = (f : Int) := by omega
    simp (disch := omega) only [go_sem, g0, g3, g4, e]
    rw [hF]; exact ⟨(by simp [AA, g0] <;> omega), (by simp [AA, g3] <;> omega), (by simp [AA, g4] <;> omega), zV, rfl⟩
   ·rw [if_neg h9t] at hf
    subst hf
    simp (disch := omega) only [go_sem, g0, g3, g4]
    rw [hF]; exact ⟨(by simp [AA, g0] <;> omega), (by simp [AA, g3] <;> omega), (by simp [AA, g4] <;> omega), zV, rfl⟩
  clear hf
  rintro ⟨fr, h1, nx1⟩ hst
  rw [hF] at hst
  obtain ⟨g0, g3, g4, g5, e1⟩ := hst
  simp only at g0 g3 g4 g5 e1
  subst e1
  simp (disch := omega) only [go_sem, g0, g3, g4, g5]
  refine AM (fun (i : Nat) st => st.fr 0 = .str s ∧ st.fr 3 = .ref 0 ds.length 0 ds.length ∧ st.fr 4 = .int .i64 t ∧ st.fr 6 = .int .i64 (dval ((s.take (f + i)).drop f)) ∧ st.fr 7 = .int .i64 ((f + i : Nat) : Int) ∧ st.h = h1 ∧ f + i ≤ t) (fun i => t - (f + i)) 0
   ⟨(by simp [AA, g0] <;> omega), (by simp [AA, g3] <;> omega), (by simp [AA, g4] <;> omega), by simp [AA, List.drop_take, dval], (by simp [AA, g5] <;> omega), rfl, zO⟩ ?_
  rintro i ⟨fr, h2, nx2⟩ ⟨g0, g3, g4, g6, g7, e1, hi⟩ J2 hJ2
  simp only at g0 g3 g4 g6 g7 e1
  subst e1
  by_cases hin : f + i < t
  ·obtain ⟨c, hc⟩ := AI (xs := s) (i := f + i) zO
   have hcd1 := h c (List.mem_of_getElem? hc)
   have hc48 : 48 ≤ c.toNat ∧ c.toNat ≤ 57 := by simpa [isDig] using hcd1
   have hstep : (s.take (f + (i + 1))).drop f = (s.take (f + i)).drop f ++ [c] := by
    rw [← Nat.add_assoc, List.take_add_one, hc, List.drop_append]
    congr 1
    rw [List.length_take, Nat.min_eq_left zO, show f - (f + i) = 0 by omega]; rfl
   have hsd := Oq ((s.take (f + i)).drop f) c
   rw [← hstep] at hsd
   have hlt : dval ((s.take (f + i)).drop f) < 1000000000 := by
    have := E5 (s := (s.take (f + i)).drop f) (fun c hc => h c (List.mem_of_mem_take (List.mem_of_mem_drop hc)))
    rw [show ((s.take (f + i)).drop f).length = i by simp; omega] at this
    exact Nat.lt_of_lt_of_le this (Nat.le_trans (Nat.pow_le_pow_right zO (show i ≤ 9 by omega)) zD)
   generalize dval ((s.take (f + i)).drop f) = w at *
   have hsub : (c.toNat : Int) - 48 = ((c.toNat - 48 : Nat) : Int) := by omega
   have hdd : (c.toNat - 48) ≤ 9 := by omega
   simp (disch := omega) only [go_sem, g0, g3, g4, g6, g7, hc, hsub]
   exact hJ2 (i + 1) _ ⟨(by simp [AA, g0] <;> omega), (by simp [AA, g3] <;> omega), (by simp [AA, g4] <;> omega), by rw [hsd]; exact zV, zV, rfl, zO⟩ zO
  ·have hfi : f + i = t := by omega
   rw [hfi, hvv] at g6
   have hml : (natA .i64 ds).length = ds.length := AF ..
   simp (disch := omega) only [go_sem, g0, g3, g4, g6, g7, hfi, hm, reach]
   exact hfin _ (by simp [AA, g0] <;> omega) zV zV ⟨false, zU⟩
 ·have e0 : to.toNat = 0 := by omega
  rw [e0, List.drop_zero] at hv
  simp (disch := omega) only [go_sem, g0, g3, g4]
  have htr : trimZ (ds.take ds.length) = enc B9 (dval s) := by rw [List.take_length, A1 AR hq, hv]
  refine DB (HX AS (ds.take ds.length) zW) GK (by simp [evA, AA]) (FT (id := 0) (st := ⟨_, _, _⟩) hm rfl (Nat.le_refl _)) (by simp [hm]) zP zP zS ?_
  rw [htr]
  simp (disch := omega) only [go_sem]
  rw [← hQ]
  exact AG (.inl rfl) rfl (by simp [AA, natS] <;> omega) zS
theorem Ho (s : List UInt8) (hs : s.length < 9223372036854775808) : CallOk Tryz.prog 107 [.str s] (.bool (tokD s)) [] := by
 (refine AB (W := fun _ => false) false AS Tryz.func107 rfl zK zL (AC ?_); generalize hQ : Post Tryz.prog Tryz.f107 _ _ _ _ _ = Q; simp only [stIn, matL, matA, st00])
 simp (disch := omega) only [go_sem]
 refine AM (fun (i : Nat) st => st.fr 0 = .str s ∧ st.fr 3 = .int .i64 i ∧ i ≤ s.length ∧ ∀ c ∈ s.take i, isDig c = true) (fun i => s.length - i) 0 ⟨zV, zV, zO, zS⟩ ?_
 rintro i ⟨fr, h, nx⟩ ⟨g0, g3, hi, hdg⟩ J hJ
 simp only at g0 g3
 by_cases hin : i < s.length
 ·obtain ⟨c, hc⟩ := AI (xs := s) (i := i) hin
  have hcb := c.toNat_lt
  cases hd : isDig c with
  | false =>
   have hnd : c.toNat < 48 ∨ 57 < c.toNat := by simp [isDig] at hd; omega
   have hb : tokD s = false := by simp [tokD]; intro _ _ _; exact ⟨c, List.mem_of_getElem? hc, hd⟩
   rw [hb] at hQ
   rcases hnd with hnd | hnd
   ·simp (disch := omega) only [go_sem, g0, g3, hc]
    rw [← hQ]
    exact AG (.inl rfl) rfl zV rfl
   ·simp (disch := omega) only [go_sem, g0, g3, hc]
    rw [← hQ]
    exact AG (.inl rfl) rfl zV rfl
  | true =>
   have hnd : 48 ≤ c.toNat ∧ c.toNat ≤ 57 := by simpa [isDig] using hd
   simp (disch := omega) only [go_sem, g0, g3, hc]
   refine hJ (i + 1) _ ⟨(by simp [AA, g0] <;> omega), zV, hin, fun d hd' => ?_⟩ zO
   rw [List.take_add_one, hc] at hd'
   rcases List.mem_append.1 hd' with h' | h'
   ·exact hdg d h'
   ·simp at h'; rw [h']; exact hd
 ·rw [List.take_of_length_le zO] at hdg
  clear hJ
  have hall : s.all isDig = true := by simpa using hdg
  by_cases h1 : s.length < 1
  ·have hb : tokD s = false := by simp [tokD]; omega
   rw [hb] at hQ
   simp (disch := omega) only [go_sem, g0, g3]
   rw [← hQ]
   exact AG (.inl rfl) rfl zV rfl
  by_cases h2 : 200 < s.length
  ·have hb : tokD s = false := by simp [tokD]; omega
   rw [hb] at hQ
   simp (disch := omega) only [go_sem, g0, g3]
   rw [← hQ]
   exact AG (.inl rfl) rfl zV rfl
  by_cases h3 : s.length = 1
  ·have hb : tokD s = true := by simp [tokD, h3, hall]
   rw [hb] at hQ
   simp (disch := omega) only [go_sem, g0, g3]
   rw [← hQ]
   exact AG (.inl rfl) rfl zV rfl
  obtain ⟨c0, hc0⟩ := AI (xs := s) (i := 0) zO
  have hc0' : s[Int.toNat 0]? = some c0 := hc0
  have hhead : s.head? = some c0 := by rw [List.head?_eq_getElem?]; exact hc0
  by_cases h4 : c0.toNat = 48
  ·have hc48 : c0 = 48 := UInt8.toNat.inj (by rw [h4]; rfl)
   have hb : tokD s = false := by simp [tokD, hhead, hc48]; omega
   rw [hb] at hQ
   simp (disch := omega) only [go_sem, g0, g3, hc0', h4]
   rw [← hQ]
   exact AG (.inl rfl) rfl zV rfl
  ·have hne : c0 ≠ 48 := fun e => h4 (by rw [e]; rfl)
   have hb : tokD s = true := by
    have a1 : decide (1 ≤ s.length) = true := by simp; omega
    have a2 : decide (s.length ≤ 200) = true := by simp; omega
    have a3 : (!(s.head? == some 48)) = true := by rw [hhead]; simp [hne]
    simp only [tokD, a1, a2, a3, hall, Bool.or_true, Bool.and_self]
   rw [hb] at hQ
   simp (disch := omega) only [go_sem, g0, g3, hc0']
   rw [← hQ]
   exact AG (.inl rfl) rfl zV rfl
def splitM (m : UInt8) : List UInt8 → List (List UInt8)
 | [] => [[]]
 | c :: cs => if c = m then [] :: splitM m cs else match splitM m cs with | p :: ps => (c :: p) :: ps | [] => [[c]]
theorem Iz (m : UInt8) (s : List UInt8) : splitM m s ≠ [] := by
 cases s with
 | nil => simp [splitM]
 | cons c cs => simp only [splitM]; split; simp; split <;> simp
theorem FU {m : UInt8} : ∀ {a : List UInt8} {b : List UInt8}, m ∉ a → splitM m (a ++ m :: b) = a :: splitM m b
 | [], b, _ => by simp [splitM]
 | c :: cs, b, h => by
  simp only [List.mem_cons, not_or] at h
  simp only [List.cons_append, splitM, FU h.2]
  rw [if_neg (fun e => h.1 e.symm)]
theorem FV {m : UInt8} : ∀ {a : List UInt8}, m ∉ a → splitM m a = [a]
 | [], _ => rfl
 | c :: cs, h => by
  simp only [List.mem_cons, not_or] at h
  simp only [splitM, FV h.2]
  rw [if_neg (fun e => h.1 e.symm)]
theorem Hp (m : UInt8) : ∀ s : List UInt8, (splitM m s).length ≤ s.length + 1
 | [] => by simp [splitM]
 | c :: cs => by
  have := Hp m cs
  simp only [splitM]
  split
  ·simp; omega
  ·split
   ·rename_i h; rw [h] at this; simp at this ⊢; omega
   ·simp
theorem XT {a b : UInt8} : ((a.toNat : Int) == (b.toNat : Int)) = (a == b) := by
 rw [Bool.eq_iff_iff]; simp only [beq_iff_eq]
 exact ⟨fun e => UInt8.toNat.inj zO, fun e => by rw [e]⟩
theorem I0 {xs : List (List UInt8)} {x : List UInt8} : strA xs ++ [AV.str x] = strA (xs ++ [x]) := by simp [strA]
theorem XU (s : List UInt8) (m : UInt8) (hs : s.length ≤ 1000000000) : CallOk Tryz.prog 106 [.str s, .int .u8 m.toNat] (.sl 9 (strA (splitM m s)) [] false) [] := by
 (refine AB (W := fun _ => false) false AS Tryz.func106 rfl zK zL (AC ?_); generalize hQ : Post Tryz.prog Tryz.f106 _ _ _ _ _ = Q; simp only [stIn, matL, matA, st00])
 simp (disch := omega) only [go_sem]
 obtain ⟨R, hR⟩ : ∃ R : Nat × Nat × List (List UInt8) → St → Prop, R = fun p st => st.fr 0 = .str s ∧ st.fr 1 = .int .u8 m.toNat ∧ st.fr 5 = .ref 0 p.2.2.length 0 p.2.2.length ∧ st.fr 6 = .int .i64 p.2.1 ∧ st.fr 7 = .int .i64 p.1 ∧ (∃ ex, st.h 0 = ⟨9, strA p.2.2, ex, true, true⟩) ∧ p.2.2.length ≤ p.1 ∧
   ((p.2.1 ≤ p.1 ∧ p.1 ≤ s.length ∧ p.2.2 ++ splitM m (s.drop p.2.1) = splitM m s ∧ m ∉ (s.drop p.2.1).take (p.1 - p.2.1)) ∨ (p.1 = s.length + 1 ∧ p.2.2 = splitM m s)) := ⟨_, rfl⟩
 refine AM R (fun p => s.length + 1 - p.1) (0, 0, []) (by rw [hR]; exact ⟨zV, zV, zV, zV, zV, ⟨true, by simp [AA, strA]⟩, zS, .inl ⟨zS, zS, zS, zS⟩⟩) ?_
 rintro ⟨i, f, out⟩ ⟨fr, h, nx⟩ hst J hJ
 rw [hR] at hst
 obtain ⟨g0, g1, g5, g6, g7, ⟨ex, hm⟩, hol, hcase⟩ := hst
 simp only at g0 g1 g5 g6 g7 hm hol hcase
 rcases hcase with ⟨hf, hi, hsp, hnm⟩ | ⟨hi, hsp⟩
 ·have hfin : ∀ (st : St) (f' : Nat) (out' : List (List UInt8)), st.fr 0 = .str s → st.fr 1 = .int .u8 m.toNat → st.fr 5 = .ref 0 out'.length 0 out'.length → st.fr 6 = .int .i64 f' → st.fr 7 = .int .i64 ((i + 1 : Nat) : Int) → (∃ ex, st.h 0 = ⟨9, strA out', ex, true, true⟩) → out'.length ≤ i + 1 →
    ((f' ≤ i + 1 ∧ i + 1 ≤ s.length ∧ out' ++ splitM m (s.drop f') = splitM m s ∧ m ∉ (s.drop f').take (i + 1 - f')) ∨ (i + 1 = s.length + 1 ∧ out' = splitM m s)) → J st := fun st f' out' r0 r1 r5 r6 r7 rh rl rc =>
   hJ (i + 1, f', out') st (by rw [hR]; exact ⟨r0, r1, r5, r6, r7, rh, rl, rc⟩) zT
  clear hJ hR hQ
  have hml : (strA out).length = out.length := AE out
  by_cases hie : i = s.length
  ·subst hie
   have hseg : (s.take s.length).drop f = s.drop f := by rw [List.take_length]
   rw [List.take_of_length_le zS] at hnm
   simp (disch := omega) only [go_sem, g0, g1, g5, g6, g7, hm, hml, hseg, reach, List.length_cons, List.length_nil, I0]
   refine hfin _ (s.length + 1) (out ++ [s.drop f]) (by simp [AA, g0] <;> omega) (by simp [AA, g1] <;> omega) zU zV zV ⟨false, zU⟩ zW (.inr ⟨rfl, ?_⟩)
   rw [← hsp, FV hnm]
  ·obtain ⟨c, hc⟩ := AI (xs := s) (i := i) zO
   have hcm := XT (a := c) (b := m)
   have hsegl : (s.drop f).take (i - f) = (s.take i).drop f := by rw [List.drop_take]
   by_cases hcmm : c = m
   ·subst hcmm
    rw [beq_self_eq_true] at hcm
    have hpart : s.drop f = (s.take i).drop f ++ c :: s.drop (i + 1) := by
     rw [← hsegl, ← Ak hc]
     conv => lhs; rw [← List.take_append_drop (i - f) (s.drop f), List.drop_drop, show f + (i - f) = i by omega]
    simp (disch := omega) only [go_sem, g0, g1, g5, g6, g7, hc, hm, hml, reach, List.length_cons, List.length_nil, I0]
    refine hfin _ (i + 1) (out ++ [(s.take i).drop f]) (by simp [AA, g0] <;> omega) (by simp [AA, g1] <;> omega) zU zV zV ⟨false, zU⟩ zW (.inl ⟨zO, zO, ?_, zS⟩)
    rw [← hsp, hpart, FU (by rw [← hsegl]; exact hnm)]; simp
   ·have hne : (c == m) = false := by simpa using hcmm
    rw [hne] at hcm
    simp (disch := omega) only [go_sem, g0, g1, g5, g6, g7, hc, hcm]
    refine hfin _ f out (by simp [AA, g0] <;> omega) (by simp [AA, g1] <;> omega) (by simp [AA, g5] <;> omega) (by simp [AA, g6] <;> omega) zV ⟨ex, by simpa [AA] using hm⟩ zO (.inl ⟨zO, zO, hsp, ?_⟩)
    rw [show i + 1 - f = (i - f) + 1 by omega, List.take_add_one, List.getElem?_drop, show f + (i - f) = i by omega, hc]
    simp only [List.mem_append, not_or]
    exact ⟨hnm, by simpa using fun e => hcmm e.symm⟩
 ·subst hsp
  have hlen := Hp m s
  clear hJ hR
  simp (disch := omega) only [go_sem, g0, g1, g5, g6, g7, hi]
  rw [← hQ]
  have hfz := Av (st := ⟨fr, h, nx⟩) (d := 7) (id := 0) (n := (splitM m s).length) (off := 0) (len := (splitM m s).length) (T := 9) (r := strA (splitM m s)) (by simp [hm]) (by simp [hm, AE]) (by simp [hm]) zS (by simp [hm]; exact List.take_of_length_le (by simp [AE])) (AU _)
  exact Bs (id := 0) (n := (splitM m s).length) (off := 0) (len := (splitM m s).length) (.inl rfl) rfl zV (by simp [hm]) (by simp [hm, AE]) (by simp [hm]) zS (Nat.zero_le _) (by simp [hm]; exact List.take_of_length_le (by simp [AE])) (AU _)
theorem NI : callable Tryz.prog 81 = true := by kernel_rfl
def bodyQ (s : List UInt8) : List UInt8 := if headB 45 s = true then s.tail else s
theorem MH (s : List UInt8) : headB 45 (firstQ s) = headB 45 s ∧ digsQ s = firstQ (bodyQ s) ∧ ((findB 47 s = none ∧ findB 47 (bodyQ s) = none) ∨ ∃ i j, findB 47 s = some i ∧ findB 47 (bodyQ s) = some j ∧ s.drop (i + 1) = (bodyQ s).drop (j + 1)) := by
 cases s with
 | nil => simp [firstQ, findB, headB, digsQ, bodyQ]
 | cons c cs =>
  by_cases hc : c = 45
  ·subst hc
   have e1 : findB 47 (45 :: cs) = (findB 47 cs).map (· + 1) := by simp [findB]
   have e2 : bodyQ (45 :: cs) = cs := by simp [bodyQ, headB]
   rw [e2, e1]
   cases hf : findB 47 cs with
   | none => simp [firstQ, e1, hf, headB, digsQ]
   | some j => simp [firstQ, e1, hf, headB, digsQ]
  ·have e2 : bodyQ (c :: cs) = c :: cs := by simp [bodyQ, headB, hc]
   have e3 : headB 45 (c :: cs) = false := by simp [headB, hc]
   rw [e2, e3]
   have e4 : headB 45 (firstQ (c :: cs)) = false := by
    simp only [firstQ]
    cases hf : findB 47 (c :: cs) with
    | none => exact e3
    | some i => cases i with
     | zero => simp [headB]
     | succ i => simp [headB, hc]
   refine ⟨e4, by simp [digsQ, e4], ?_⟩
   cases hf : findB 47 (c :: cs) with
   | none => exact .inl ⟨rfl, rfl⟩
   | some i => exact .inr ⟨i, i, rfl, rfl, rfl⟩
theorem C3 (s : List UInt8) : (findB 47 s = none ∧ splitM 47 s = [s]) ∨ ∃ j, findB 47 s = some j ∧ splitM 47 s = s.take j :: splitM 47 (s.drop (j + 1)) := by
 cases hf : findB 47 s with
 | none => exact .inl ⟨rfl, FV (MF hf)⟩
 | some j =>
  obtain ⟨h1, h2, h3⟩ := Hl hf
  refine .inr ⟨j, rfl, ?_⟩
  have : s = s.take j ++ 47 :: s.drop (j + 1) := by rw [← Ak h2, List.take_append_drop]
  conv => lhs; rw [this, FU h3]
theorem Gm {s : List UInt8} (h : tokD s = true) : findB 47 s = none := by
 cases hf : findB 47 s with
 | none => rfl
 | some j =>
  obtain ⟨h1, h2, h3⟩ := Hl hf
  have := (CH h).2.2 47 (List.mem_of_getElem? h2)
  simp [isDig] at this
def ratS (q : Qd) : AV := .agg [.bool q.1, natS q.2.1, natS q.2.2]
@[simp] theorem Wu (q : Qd) : (ratS q).pure = true := by simp [ratS, AV.pure, AV.pureL]
def parseV (s : List UInt8) : AV := match parseQ s with | some q => .tup [ratS q, .bool true] | none => .tup [zrI, .bool false]
theorem Qi {b : Bool} {t t' : Nat} {xs sp xs' sp' : List AV} {ex ex' : Bool} : AV.el Tryz.prog 85 (.agg [.bool b, .sl t xs sp ex, .sl t' xs' sp' ex']) = true := by simp [AV.el, CY, AV.cells, AV.one]
theorem K8 {b : Bool} : AV.el Tryz.prog 85 (.agg [.bool b, .nil, .nil]) = true := by simp [AV.el, CY, AV.cells, AV.one]
theorem Ou {t : Nat} {xs sp : List AV} {ex : Bool} : AV.el Tryz.prog 83 (.sl t xs sp ex) = true := by simp [AV.el, Ko, AV.cells, AV.one]
theorem B5 {b c d : AV} : ldA Tryz.prog 85 (.agg [b, c, d]) 0 = some (.agg [b, c, d]) := by simp [ldA, partA, DY, CY, AV.cells]
attribute [go_sem] Qi K8 Ou B5
theorem Ov : natS 1 = .sl 2 [.int .i64 1] [] false := by
 rw [natS, CX AR zD, show 1 / B9 = 0 from rfl, AZ]; rfl
theorem S8 (s : List UInt8) (hs : s.length ≤ 1000000) : CallOk Tryz.prog 81 [.str s] (parseV s) [] := by
 obtain ⟨hneg, hdg, hfind⟩ := MH s
 have hpq : parseQ s = if tokD (firstQ (bodyQ s)) = true ∧ ¬ (headB 45 s = true ∧ dval (firstQ (bodyQ s)) = 0) then
  match findB 47 (bodyQ s) with
  | none => some (headB 45 s, dval (firstQ (bodyQ s)), 1)
  | some i => if tokD ((bodyQ s).drop (i + 1)) = true ∧ 1 < dval ((bodyQ s).drop (i + 1)) ∧ Nat.gcd (dval (firstQ (bodyQ s))) (dval ((bodyQ s).drop (i + 1))) = 1 then some (headB 45 s, dval (firstQ (bodyQ s)), dval ((bodyQ s).drop (i + 1))) else none
 else none := by
  rw [parseQ, hneg, hdg]
  rcases hfind with ⟨a, b⟩ | ⟨i, j, a, b, c⟩
  ·simp only [a, b]
  ·simp only [a, b, c]
 clear hneg hdg hfind
 obtain ⟨B, hB⟩ : ∃ B, bodyQ s = B := ⟨_, rfl⟩
 have hBl : B.length ≤ s.length := by rw [← hB]; unfold bodyQ; split <;> simp
 have hCut := XU B 47 zO
 obtain ⟨D, hD⟩ : ∃ D, firstQ B = D := ⟨_, rfl⟩
 have hDl : D.length ≤ B.length := by rw [← hD]; unfold firstQ; split <;> simp; omega
 have hsplit := C3 B
 obtain ⟨P1, hP1, hP⟩ : ∃ P1, splitM 47 B = D :: P1 ∧ ((findB 47 B = none ∧ P1 = []) ∨ ∃ j, findB 47 B = some j ∧ P1 = splitM 47 (B.drop (j + 1))) := by
  rcases hsplit with ⟨a, b⟩ | ⟨j, a, b⟩
  ·exact ⟨[], by rw [b, ← hD, firstQ, a], .inl ⟨a, rfl⟩⟩
  ·exact ⟨_, by rw [b, ← hD, firstQ, a], .inr ⟨j, a, rfl⟩⟩
 rw [hP1] at hCut
 rw [hB, hD] at hpq
 have hdig := Ho D zO
 have e0 : [AV.bool false, AV.nil, AV.nil].length = 3 := rfl
 have hfail : ∀ (st : St), st.fr 2 = .ptr 0 1 0 0 → (st.h 0).lv = true → (st.h 0).xs = [zrI] → st.fr 3 = .bool false → parseQ s = none → Post Tryz.prog Tryz.f81 (matL false [AV.str s] st00).2.nx (AV.flatL [AV.str s]) false (parseV s) [] .ret st := by
  intro st k2 kl kx k3 hp
  rw [parseV, hp]
  exact DJ (x := zrI) (.inl rfl) rfl BU k2 kl kx B5 k3 rfl rfl
 have hgood : ∀ (st : St) (b : Bool) (x y : AV) (q : Qd), st.fr 2 = .ptr 0 1 0 0 → (st.h 0).lv = true → (st.h 0).xs = [.agg [.bool b, x, y]] → st.fr 3 = .bool true → x.pure = true → y.pure = true → Post Tryz.prog Tryz.f81 (matL false [AV.str s] st00).2.nx (AV.flatL [AV.str s]) false (.tup [.agg [.bool b, x, y], .bool true]) [] .ret st := by
  intro st b x y q k2 kl kx k3 hx hy
  exact DJ (x := .agg [.bool b, x, y]) (.inl rfl) rfl BU k2 kl kx B5 k3 (by simp [AV.pure, AV.pureL, hx, hy]) rfl
 have hp0 : (D :: P1)[Int.toNat 0]? = some D := rfl
 by_cases hsnil : s = []
 ·have hBn : B = [] := by rw [← hB, hsnil]; rfl
  have hDn : D = [] := by rw [← hD, hBn]; rfl
  have hPn : P1 = [] := by rw [hBn] at hP; rcases hP with ⟨_, h⟩ | ⟨j, h, _⟩; exact h; simp [findB] at h
  have htd : tokD D = false := by rw [hDn]; rfl
  rw [htd] at hpq hdig
  simp only [Bool.false_eq_true, false_and, if_false] at hpq
  have hsl : s.length = 0 := by rw [hsnil]; rfl
  rw [hBn, ← hsnil] at hCut
  (refine AB (W := fun _ => false) false AS Tryz.func81 rfl zK zL (AC ?_); generalize hQ : Post Tryz.prog Tryz.f81 _ _ _ _ _ = Q; simp only [stIn, matL, matA, st00])
  simp (disch := omega) only [go_sem, zrI, e0, hsl]
  refine AD (hCut) BK zE zP zP ?_
  simp (disch := omega) only [go_sem, AE, AQ, hp0, hPn, List.length_cons, List.length_nil]
  rw [hPn] at hp0
  refine AD (hdig) As zE zP zP ?_
  simp (disch := omega) only [go_sem, e0, List.set_cons_zero]
  rw [← hQ]
  exact hfail _ zV zU (by simp [AA, zrI]) zV hpq
 have hl0 : 0 < s.length := List.length_pos_iff.2 hsnil
 obtain ⟨c0, hc0⟩ := AI (xs := s) (i := 0) hl0
 have hc0' : s[Int.toNat 0]? = some c0 := hc0
 have hhead : s.head? = some c0 := by rw [List.head?_eq_getElem?]; exact hc0
 have hcb := c0.toNat_lt
 have htk : tokD D = true → (enc B9 (dval D)).length ≤ 200 := fun h => by
  obtain ⟨_, b, c⟩ := CH h
  exact Nat.le_trans (Ca zD c) b
 have he1 : (enc B9 1).length ≤ 1 := Af AR zD
 by_cases h45 : c0.toNat = 45
 ·have hc45 : c0 = 45 := UInt8.toNat.inj (by rw [h45]; rfl)
  have hng : headB 45 s = true := by simp [headB, hhead, hc45]
  have hsl : (s.take s.length).drop 1 = B := by rw [← hB, bodyQ, hng, List.take_length]; simp
  have hst : s.tail = B := by rw [← hsl, List.take_length]; simp
  rw [hng] at hpq
  simp only [true_and] at hpq
  cases hP1c : decide (2 ≤ P1.length) with
  | true =>
   have hP2 : 2 ≤ P1.length := by simpa using hP1c
   have hnone : parseQ s = none := by
    rw [hpq]
    rcases hP with ⟨_, h⟩ | ⟨j, h1, h2⟩
    ·rw [h] at hP2; simp at hP2
    ·have : tokD (B.drop (j + 1)) = false := by
      cases ht : tokD (B.drop (j + 1)) with
      | false => rfl
      | true =>
       rcases C3 (B.drop (j + 1)) with ⟨_, e⟩ | ⟨k, e, _⟩
       ·rw [h2, e] at hP2; simp at hP2
       ·rw [Gm ht] at e; cases e
     simp only [h1, this, Bool.false_eq_true, false_and, if_false, ite_self]
   (refine AB (W := fun _ => false) false AS Tryz.func81 rfl zK zL (AC ?_); generalize hQ : Post Tryz.prog Tryz.f81 _ _ _ _ _ = Q; simp only [stIn, matL, matA, st00])
   simp (disch := omega) only [go_sem, zrI, e0, hc0', h45, hsl]
   refine AD (hCut) BK (by simp [evA, AA, ofVal, ofCell, hst]) zP zP ?_
   simp (disch := omega) only [go_sem, AE, List.length_cons, e0]
   rw [← hQ]
   exact hfail _ zV zU (by simp [AA, zrI]) zV hnone
  | false =>
   have hP2 : P1.length ≤ 1 := by simp at hP1c; omega
   cases htd : tokD D with
   | false =>
    rw [htd] at hpq hdig
    simp only [Bool.false_eq_true, false_and, if_false] at hpq
    (refine AB (W := fun _ => false) false AS Tryz.func81 rfl zK zL (AC ?_); generalize hQ : Post Tryz.prog Tryz.f81 _ _ _ _ _ = Q; simp only [stIn, matL, matA, st00])
    simp (disch := omega) only [go_sem, zrI, e0, hc0', h45, hsl]
    refine AD (hCut) BK (by simp [evA, AA, ofVal, ofCell, hst]) zP zP ?_
    simp (disch := omega) only [go_sem, AE, AQ, hp0, List.length_cons]
    refine AD (hdig) As zE zP zP ?_
    simp (disch := omega) only [go_sem, e0]
    rw [← hQ]
    exact hfail _ zV zU (by simp [AA, zrI]) zV hpq
   | true =>
    have htl := htk htd
    rw [htd] at hpq hdig
    simp only [true_and, if_true] at hpq
    have hNR := E6 D (CH htd).2.2 zO
    obtain ⟨v, hv⟩ : ∃ v, dval D = v := ⟨_, rfl⟩
    rw [hv] at hNR hpq htl
    by_cases hv0 : v = 0
    ·subst hv0
     simp only [not_true_eq_false, if_false] at hpq
     have hz : (enc B9 0).length = 0 := by rw [AZ]; rfl
     (refine AB (W := fun _ => false) false AS Tryz.func81 rfl zK zL (AC ?_); generalize hQ : Post Tryz.prog Tryz.f81 _ _ _ _ _ = Q; simp only [stIn, matL, matA, st00])
     simp (disch := omega) only [go_sem, zrI, e0, hc0', h45, hsl]
     refine AD (hCut) BK (by simp [evA, AA, ofVal, ofCell, hst]) zP zP ?_
     simp (disch := omega) only [go_sem, AE, AQ, hp0, List.length_cons]
     refine AD (hdig) As zE zP zP ?_
     simp (disch := omega) only [go_sem, AE, AQ, hp0, List.length_cons]
     refine AD (hNR) A2 zE zP zP ?_
     simp (disch := omega) only [go_sem, natS, hz, e0]
     rw [← hQ]
     exact hfail _ zV zU (by simp [AA, zrI]) zV hpq
    rw [if_pos hv0] at hpq
    have hvp := A7 AR hv0
    rcases hP with ⟨hf, rfl⟩ | ⟨j, hf, hPj⟩
    ·rw [hf] at hpq
     simp only at hpq
     have hres : parseV s = .tup [ratS (true, v, 1), .bool true] := by rw [parseV, hpq]
     rw [hres]
     refine CallOk.res (r := .tup [.agg [.bool true, natS v, .sl 2 [.int .i64 1] [] true], .bool true]) ?_ (Ja (SubL.cons (Fm (SubL.cons (Sub.refl _) (SubL.cons (Sub.refl _) (SubL.cons (by rw [Ov]; exact Cm) .nil)))) (SubL.refl _)))
     (refine AB (W := fun _ => false) false AS Tryz.func81 rfl zK zL (AC ?_); generalize hQ : Post Tryz.prog Tryz.f81 _ _ _ _ _ = Q; simp only [stIn, matL, matA, st00])
     simp (disch := omega) only [go_sem, zrI, e0, hc0', h45, hsl]
     refine AD (hCut) BK (by simp [evA, AA, ofVal, ofCell, hst]) zP zP ?_
     simp (disch := omega) only [go_sem, AE, AQ, hp0, List.length_cons]
     refine AD (hdig) As zE zP zP ?_
     simp (disch := omega) only [go_sem, AE, AQ, hp0, List.length_cons]
     refine AD (hNR) A2 zE zP zP ?_
     simp (disch := omega) only [go_sem, natS, List.length_cons, List.length_nil, e0]
     rw [← hQ]
     exact hgood _ true (natS v) (.sl 2 [.int .i64 1] [] true) (true, v, 1) zV zU (by simp [AA, natS]) zV zS rfl
    ·rw [hf] at hpq
     simp only at hpq
     obtain ⟨e, he⟩ : ∃ e, B.drop (j + 1) = e := ⟨_, rfl⟩
     rw [he] at hpq hPj
     have hel : e.length ≤ B.length := by rw [← he]; simp
     have hPe : P1 = [e] := by
      rcases C3 e with ⟨_, h⟩ | ⟨k, _, h⟩
      ·rw [hPj, h]
      ·exfalso
       rw [hPj, h] at hP2
       have := Iz 47 (e.drop (k + 1))
       cases hs' : splitM 47 (e.drop (k + 1)) with
       | nil => exact this hs'
       | cons a b => rw [hs'] at hP2; simp at hP2
     subst hPe
     have hp1 : [D, e][Int.toNat 1]? = some e := rfl
     have hdig2 := Ho e zO
     cases hte : tokD e with
     | false =>
      rw [hte] at hpq hdig2
      simp only [Bool.false_eq_true, false_and, if_false] at hpq
      (refine AB (W := fun _ => false) false AS Tryz.func81 rfl zK zL (AC ?_); generalize hQ : Post Tryz.prog Tryz.f81 _ _ _ _ _ = Q; simp only [stIn, matL, matA, st00])
      simp (disch := omega) only [go_sem, zrI, e0, hc0', h45, hsl]
      refine AD (hCut) BK (by simp [evA, AA, ofVal, ofCell, hst]) zP zP ?_
      simp (disch := omega) only [go_sem, AE, AQ, hp0, List.length_cons]
      refine AD (hdig) As zE zP zP ?_
      simp (disch := omega) only [go_sem, AE, AQ, hp0, List.length_cons]
      refine AD (hNR) A2 zE zP zP ?_
      simp (disch := omega) only [go_sem, natS, List.length_cons, List.length_nil, AE, AQ, hp1]
      refine AD (hdig2) As zE zP zP ?_
      simp (disch := omega) only [go_sem, e0]
      rw [← hQ]
      exact hfail _ zV zU (by simp [AA, zrI]) zV hpq
     | true =>
      have htl2 : (enc B9 (dval e)).length ≤ 200 := by
       obtain ⟨_, b, c⟩ := CH hte
       exact Nat.le_trans (Ca zD c) b
      rw [hte] at hpq hdig2
      simp only [true_and] at hpq
      have hNR2 := E6 e (CH hte).2.2 zO
      obtain ⟨u, hu⟩ : ∃ u, dval e = u := ⟨_, rfl⟩
      rw [hu] at hNR2 hpq htl2
      have hcmp := (FJ AS u 1 zO zO).args (SubL.cons (Sub.refl _) (SubL.cons (show Sub Tryz.prog (.sl 2 [.int .i64 1] [] true) (natS 1) by rw [Ov]; exact Cm) .nil))
      have hgcd := Qh v u zO zO
      by_cases hu1 : 1 < u
      ·rw [Bx hu1] at hcmp
       obtain ⟨g, hg⟩ : ∃ g, Nat.gcd v u = g := ⟨_, rfl⟩
       rw [hg] at hgcd
       simp only [hg, hu1, true_and] at hpq
       have hgu : g ≤ u := by rw [← hg]; exact Nat.gcd_le_right v zO
       have hgl := AX AR hgu
       have hcg := (FJ AS g 1 zO zO).args (SubL.cons (Sub.refl _) (SubL.cons (show Sub Tryz.prog (.sl 2 [.int .i64 1] [] true) (natS 1) by rw [Ov]; exact Cm) .nil))
       by_cases hg1 : g = 1
       ·subst hg1
        rw [By] at hcg
        simp only [if_true] at hpq
        have hres : parseV s = .tup [ratS (true, v, u), .bool true] := by rw [parseV, hpq]
        rw [hres]
        (refine AB (W := fun _ => false) false AS Tryz.func81 rfl zK zL (AC ?_); generalize hQ : Post Tryz.prog Tryz.f81 _ _ _ _ _ = Q; simp only [stIn, matL, matA, st00])
        simp (disch := omega) only [go_sem, zrI, e0, hc0', h45, hsl]
        refine AD (hCut) BK (by simp [evA, AA, ofVal, ofCell, hst]) zP zP ?_
        simp (disch := omega) only [go_sem, AE, AQ, hp0, List.length_cons]
        refine AD (hdig) As zE zP zP ?_
        simp (disch := omega) only [go_sem, AE, AQ, hp0, List.length_cons]
        refine AD (hNR) A2 zE zP zP ?_
        simp (disch := omega) only [go_sem, natS, List.length_cons, List.length_nil, AE, AQ, hp1]
        refine AD (hdig2) As zE zP zP ?_
        simp (disch := omega) only [go_sem, AE, AQ, hp1]
        refine AD (hNR2) A2 zE zP zP ?_
        simp (disch := omega) only [go_sem, natS]
        refine AD hcmp EY (by simp [evA, AA, natS]) (by simp [AV.pureL, AV.pure]) rfl ?_
        simp (disch := omega) only [go_sem, natS]
        refine AD hgcd NH (by simp [evA, AA, natS]) (by simp [AV.pureL]) zS ?_
        simp (disch := omega) only [go_sem, natS]
        refine AD hcg EY (by simp [evA, AA, natS]) (by simp [AV.pureL, AV.pure]) rfl ?_
        simp (disch := omega) only [go_sem, natS, e0]
        rw [← hQ]
        exact hgood _ true (natS v) (natS u) (true, v, u) zV zU (by simp [AA, natS]) zV zS zS
       ·have hcn : cmpI g 1 ≠ 0 := by
         rcases Nat.lt_trichotomy g 1 with h | h | h
         ·rw [BS h]; decide
         ·exact absurd h hg1
         ·rw [Bx h]; decide
        rw [if_neg hg1] at hpq
        (refine AB (W := fun _ => false) false AS Tryz.func81 rfl zK zL (AC ?_); generalize hQ : Post Tryz.prog Tryz.f81 _ _ _ _ _ = Q; simp only [stIn, matL, matA, st00])
        simp (disch := omega) only [go_sem, zrI, e0, hc0', h45, hsl]
        refine AD (hCut) BK (by simp [evA, AA, ofVal, ofCell, hst]) zP zP ?_
        simp (disch := omega) only [go_sem, AE, AQ, hp0, List.length_cons]
        refine AD (hdig) As zE zP zP ?_
        simp (disch := omega) only [go_sem, AE, AQ, hp0, List.length_cons]
        refine AD (hNR) A2 zE zP zP ?_
        simp (disch := omega) only [go_sem, natS, List.length_cons, List.length_nil, AE, AQ, hp1]
        refine AD (hdig2) As zE zP zP ?_
        simp (disch := omega) only [go_sem, AE, AQ, hp1]
        refine AD (hNR2) A2 zE zP zP ?_
        simp (disch := omega) only [go_sem, natS]
        refine AD hcmp EY (by simp [evA, AA, natS]) (by simp [AV.pureL, AV.pure]) rfl ?_
        simp (disch := omega) only [go_sem, natS]
        refine AD hgcd NH (by simp [evA, AA, natS]) (by simp [AV.pureL]) zS ?_
        simp (disch := omega) only [go_sem, natS]
        refine AD hcg EY (by simp [evA, AA, natS]) (by simp [AV.pureL, AV.pure]) rfl ?_
        simp (disch := omega) only [go_sem, e0]
        rw [← hQ]
        exact hfail _ zV zU (by simp [AA, zrI]) zV hpq
      ·have hc1 : cmpI u 1 ≤ 0 := by
        rcases Nat.lt_or_ge u 1 with h | h
        ·rw [BS h]; decide
        ·rw [show u = 1 by omega, By]; decide
       rw [if_neg (fun h => hu1 h.1)] at hpq
       (refine AB (W := fun _ => false) false AS Tryz.func81 rfl zK zL (AC ?_); generalize hQ : Post Tryz.prog Tryz.f81 _ _ _ _ _ = Q; simp only [stIn, matL, matA, st00])
       simp (disch := omega) only [go_sem, zrI, e0, hc0', h45, hsl]
       refine AD (hCut) BK (by simp [evA, AA, ofVal, ofCell, hst]) zP zP ?_
       simp (disch := omega) only [go_sem, AE, AQ, hp0, List.length_cons]
       refine AD (hdig) As zE zP zP ?_
       simp (disch := omega) only [go_sem, AE, AQ, hp0, List.length_cons]
       refine AD (hNR) A2 zE zP zP ?_
       simp (disch := omega) only [go_sem, natS, List.length_cons, List.length_nil, AE, AQ, hp1]
       refine AD (hdig2) As zE zP zP ?_
       simp (disch := omega) only [go_sem, AE, AQ, hp1]
       refine AD (hNR2) A2 zE zP zP ?_
       simp (disch := omega) only [go_sem, natS]
       refine AD hcmp EY (by simp [evA, AA, natS]) (by simp [AV.pureL, AV.pure]) rfl ?_
       simp (disch := omega) only [go_sem, e0]
       rw [← hQ]
       exact hfail _ zV zU (by simp [AA, zrI]) zV hpq
 ·have hng : headB 45 s = false := by
   have : c0 ≠ 45 := fun e => h45 (by rw [e]; rfl)
   simp [headB, hhead, this]
  have hBs : B = s := by rw [← hB, bodyQ, hng]; rfl
  rw [hBs] at hCut
  rw [hng] at hpq
  simp only [Bool.false_eq_true, false_and, not_false_eq_true, and_true] at hpq
  cases hP1c : decide (2 ≤ P1.length) with
  | true =>
   have hP2 : 2 ≤ P1.length := by simpa using hP1c
   have hnone : parseQ s = none := by
    rw [hpq]
    rcases hP with ⟨_, h⟩ | ⟨j, h1, h2⟩
    ·rw [h] at hP2; simp at hP2
    ·have : tokD (B.drop (j + 1)) = false := by
      cases ht : tokD (B.drop (j + 1)) with
      | false => rfl
      | true =>
       rcases C3 (B.drop (j + 1)) with ⟨_, e⟩ | ⟨k, e, _⟩
       ·rw [h2, e] at hP2; simp at hP2
       ·rw [Gm ht] at e; cases e
     simp only [h1, this, Bool.false_eq_true, false_and, if_false, ite_self]
   (refine AB (W := fun _ => false) false AS Tryz.func81 rfl zK zL (AC ?_); generalize hQ : Post Tryz.prog Tryz.f81 _ _ _ _ _ = Q; simp only [stIn, matL, matA, st00])
   simp (disch := omega) only [go_sem, zrI, e0, hc0']
   refine AD (hCut) BK zE zP zP ?_
   simp (disch := omega) only [go_sem, AE, List.length_cons, e0]
   rw [← hQ]
   exact hfail _ zV zU (by simp [AA, zrI]) zV hnone
  | false =>
   have hP2 : P1.length ≤ 1 := by simp at hP1c; omega
   cases htd : tokD D with
   | false =>
    rw [htd] at hpq hdig
    simp only [Bool.false_eq_true, false_and, if_false] at hpq
    (refine AB (W := fun _ => false) false AS Tryz.func81 rfl zK zL (AC ?_); generalize hQ : Post Tryz.prog Tryz.f81 _ _ _ _ _ = Q; simp only [stIn, matL, matA, st00])
    simp (disch := omega) only [go_sem, zrI, e0, hc0']
    refine AD (hCut) BK zE zP zP ?_
    simp (disch := omega) only [go_sem, AE, AQ, hp0, List.length_cons]
    refine AD (hdig) As zE zP zP ?_
    simp (disch := omega) only [go_sem, e0]
    rw [← hQ]
    exact hfail _ zV zU (by simp [AA, zrI]) zV hpq
   | true =>
    have htl := htk htd
    rw [htd] at hpq hdig
    simp only [true_and, if_true] at hpq
    have hNR := E6 D (CH htd).2.2 zO
    obtain ⟨v, hv⟩ : ∃ v, dval D = v := ⟨_, rfl⟩
    rw [hv] at hNR hpq htl
    rcases hP with ⟨hf, rfl⟩ | ⟨j, hf, hPj⟩
    ·rw [hf] at hpq
     simp only at hpq
     have hres : parseV s = .tup [ratS (false, v, 1), .bool true] := by rw [parseV, hpq]
     rw [hres]
     refine CallOk.res (r := .tup [.agg [.bool false, natS v, .sl 2 [.int .i64 1] [] true], .bool true]) ?_ (Ja (SubL.cons (Fm (SubL.cons (Sub.refl _) (SubL.cons (Sub.refl _) (SubL.cons (by rw [Ov]; exact Cm) .nil)))) (SubL.refl _)))
     (refine AB (W := fun _ => false) false AS Tryz.func81 rfl zK zL (AC ?_); generalize hQ : Post Tryz.prog Tryz.f81 _ _ _ _ _ = Q; simp only [stIn, matL, matA, st00])
     simp (disch := omega) only [go_sem, zrI, e0, hc0']
     refine AD (hCut) BK zE zP zP ?_
     simp (disch := omega) only [go_sem, AE, AQ, hp0, List.length_cons]
     refine AD (hdig) As zE zP zP ?_
     simp (disch := omega) only [go_sem, AE, AQ, hp0, List.length_cons]
     refine AD (hNR) A2 zE zP zP ?_
     simp (disch := omega) only [go_sem, natS, List.length_cons, List.length_nil, e0]
     rw [← hQ]
     exact hgood _ false (natS v) (.sl 2 [.int .i64 1] [] true) (false, v, 1) zV zU (by simp [AA, natS]) zV zS rfl
    ·rw [hf] at hpq
     simp only at hpq
     obtain ⟨e, he⟩ : ∃ e, B.drop (j + 1) = e := ⟨_, rfl⟩
     rw [he] at hpq hPj
     have hel : e.length ≤ B.length := by rw [← he]; simp
     have hPe : P1 = [e] := by
      rcases C3 e with ⟨_, h⟩ | ⟨k, _, h⟩
      ·rw [hPj, h]
      ·exfalso
       rw [hPj, h] at hP2
       have := Iz 47 (e.drop (k + 1))
       cases hs' : splitM 47 (e.drop (k + 1)) with
       | nil => exact this hs'
       | cons a b => rw [hs'] at hP2; simp at hP2
     subst hPe
     have hp1 : [D, e][Int.toNat 1]? = some e := rfl
     have hdig2 := Ho e zO
     cases hte : tokD e with
     | false =>
      rw [hte] at hpq hdig2
      simp only [Bool.false_eq_true, false_and, if_false] at hpq
      (refine AB (W := fun _ => false) false AS Tryz.func81 rfl zK zL (AC ?_); generalize hQ : Post Tryz.prog Tryz.f81 _ _ _ _ _ = Q; simp only [stIn, matL, matA, st00])
      simp (disch := omega) only [go_sem, zrI, e0, hc0']
      refine AD (hCut) BK zE zP zP ?_
      simp (disch := omega) only [go_sem, AE, AQ, hp0, List.length_cons]
      refine AD (hdig) As zE zP zP ?_
      simp (disch := omega) only [go_sem, AE, AQ, hp0, List.length_cons]
      refine AD (hNR) A2 zE zP zP ?_
      simp (disch := omega) only [go_sem, natS, List.length_cons, List.length_nil, AE, AQ, hp1]
      refine AD (hdig2) As zE zP zP ?_
      simp (disch := omega) only [go_sem, e0]
      rw [← hQ]
      exact hfail _ zV zU (by simp [AA, zrI]) zV hpq
     | true =>
      have htl2 : (enc B9 (dval e)).length ≤ 200 := by
       obtain ⟨_, b, c⟩ := CH hte
       exact Nat.le_trans (Ca zD c) b
      rw [hte] at hpq hdig2
      simp only [true_and] at hpq
      have hNR2 := E6 e (CH hte).2.2 zO
      obtain ⟨u, hu⟩ : ∃ u, dval e = u := ⟨_, rfl⟩
      rw [hu] at hNR2 hpq htl2
      have hcmp := (FJ AS u 1 zO zO).args (SubL.cons (Sub.refl _) (SubL.cons (show Sub Tryz.prog (.sl 2 [.int .i64 1] [] true) (natS 1) by rw [Ov]; exact Cm) .nil))
      have hgcd := Qh v u zO zO
      by_cases hu1 : 1 < u
      ·rw [Bx hu1] at hcmp
       obtain ⟨g, hg⟩ : ∃ g, Nat.gcd v u = g := ⟨_, rfl⟩
       rw [hg] at hgcd
       simp only [hg, hu1, true_and] at hpq
       have hgu : g ≤ u := by rw [← hg]; exact Nat.gcd_le_right v zO
       have hgl := AX AR hgu
       have hcg := (FJ AS g 1 zO zO).args (SubL.cons (Sub.refl _) (SubL.cons (show Sub Tryz.prog (.sl 2 [.int .i64 1] [] true) (natS 1) by rw [Ov]; exact Cm) .nil))
       by_cases hg1 : g = 1
       ·subst hg1
        rw [By] at hcg
        simp only [if_true] at hpq
        have hres : parseV s = .tup [ratS (false, v, u), .bool true] := by rw [parseV, hpq]
        rw [hres]
        (refine AB (W := fun _ => false) false AS Tryz.func81 rfl zK zL (AC ?_); generalize hQ : Post Tryz.prog Tryz.f81 _ _ _ _ _ = Q; simp only [stIn, matL, matA, st00])
        simp (disch := omega) only [go_sem, zrI, e0, hc0']
        refine AD (hCut) BK zE zP zP ?_
        simp (disch := omega) only [go_sem, AE, AQ, hp0, List.length_cons]
        refine AD (hdig) As zE zP zP ?_
        simp (disch := omega) only [go_sem, AE, AQ, hp0, List.length_cons]
        refine AD (hNR) A2 zE zP zP ?_
        simp (disch := omega) only [go_sem, natS, List.length_cons, List.length_nil, AE, AQ, hp1]
        refine AD (hdig2) As zE zP zP ?_
        simp (disch := omega) only [go_sem, AE, AQ, hp1]
        refine AD (hNR2) A2 zE zP zP ?_
        simp (disch := omega) only [go_sem, natS]
        refine AD hcmp EY (by simp [evA, AA, natS]) (by simp [AV.pureL, AV.pure]) rfl ?_
        simp (disch := omega) only [go_sem, natS]
        refine AD hgcd NH (by simp [evA, AA, natS]) (by simp [AV.pureL]) zS ?_
        simp (disch := omega) only [go_sem, natS]
        refine AD hcg EY (by simp [evA, AA, natS]) (by simp [AV.pureL, AV.pure]) rfl ?_
        simp (disch := omega) only [go_sem, natS, e0]
        rw [← hQ]
        exact hgood _ false (natS v) (natS u) (false, v, u) zV zU (by simp [AA, natS]) zV zS zS
       ·have hcn : cmpI g 1 ≠ 0 := by
         rcases Nat.lt_trichotomy g 1 with h | h | h
         ·rw [BS h]; decide
         ·exact absurd h hg1
         ·rw [Bx h]; decide
        rw [if_neg hg1] at hpq
        (refine AB (W := fun _ => false) false AS Tryz.func81 rfl zK zL (AC ?_); generalize hQ : Post Tryz.prog Tryz.f81 _ _ _ _ _ = Q; simp only [stIn, matL, matA, st00])
        simp (disch := omega) only [go_sem, zrI, e0, hc0']
        refine AD (hCut) BK zE zP zP ?_
        simp (disch := omega) only [go_sem, AE, AQ, hp0, List.length_cons]
        refine AD (hdig) As zE zP zP ?_
        simp (disch := omega) only [go_sem, AE, AQ, hp0, List.length_cons]
        refine AD (hNR) A2 zE zP zP ?_
        simp (disch := omega) only [go_sem, natS, List.length_cons, List.length_nil, AE, AQ, hp1]
        refine AD (hdig2) As zE zP zP ?_
        simp (disch := omega) only [go_sem, AE, AQ, hp1]
        refine AD (hNR2) A2 zE zP zP ?_
        simp (disch := omega) only [go_sem, natS]
        refine AD hcmp EY (by simp [evA, AA, natS]) (by simp [AV.pureL, AV.pure]) rfl ?_
        simp (disch := omega) only [go_sem, natS]
        refine AD hgcd NH (by simp [evA, AA, natS]) (by simp [AV.pureL]) zS ?_
        simp (disch := omega) only [go_sem, natS]
        refine AD hcg EY (by simp [evA, AA, natS]) (by simp [AV.pureL, AV.pure]) rfl ?_
        simp (disch := omega) only [go_sem, e0]
        rw [← hQ]
        exact hfail _ zV zU (by simp [AA, zrI]) zV hpq
      ·have hc1 : cmpI u 1 ≤ 0 := by
        rcases Nat.lt_or_ge u 1 with h | h
        ·rw [BS h]; decide
        ·rw [show u = 1 by omega, By]; decide
       rw [if_neg (fun h => hu1 h.1)] at hpq
       (refine AB (W := fun _ => false) false AS Tryz.func81 rfl zK zL (AC ?_); generalize hQ : Post Tryz.prog Tryz.f81 _ _ _ _ _ = Q; simp only [stIn, matL, matA, st00])
       simp (disch := omega) only [go_sem, zrI, e0, hc0']
       refine AD (hCut) BK zE zP zP ?_
       simp (disch := omega) only [go_sem, AE, AQ, hp0, List.length_cons]
       refine AD (hdig) As zE zP zP ?_
       simp (disch := omega) only [go_sem, AE, AQ, hp0, List.length_cons]
       refine AD (hNR) A2 zE zP zP ?_
       simp (disch := omega) only [go_sem, natS, List.length_cons, List.length_nil, AE, AQ, hp1]
       refine AD (hdig2) As zE zP zP ?_
       simp (disch := omega) only [go_sem, AE, AQ, hp1]
       refine AD (hNR2) A2 zE zP zP ?_
       simp (disch := omega) only [go_sem, natS]
       refine AD hcmp EY (by simp [evA, AA, natS]) (by simp [AV.pureL, AV.pure]) rfl ?_
       simp (disch := omega) only [go_sem, e0]
       rw [← hQ]
       exact hfail _ zV zU (by simp [AA, zrI]) zV hpq
theorem YM : callable Tryz.prog 49 = true := by kernel_rfl
def ratsS (qs : List Qd) : AV := .sl 85 (qs.map ratS) [] false
def listS (o : Option (List Qd)) : AV := match o with | some qs => .tup [ratsS qs, .bool true] | none => .tup [.nil, .bool false]
theorem MI (qs : List Qd) : AV.pureL (qs.map ratS) = true := by induction qs <;> simp_all [AV.pureL]
theorem VW (xs : List (List UInt8)) (hl : xs.length < 9223372036854775808) (hs : ∀ x ∈ xs, x.length ≤ 1000000) : CallOk Tryz.prog 49 [.sl 9 (strA xs) [] false] (listS (listQ xs)) [] := by
 by_cases h300 : 300 < xs.length
 ·rw [listQ, if_pos h300]
  (refine AB (W := fun _ => false) false AS Tryz.func49 rfl zK zL (AC ?_); generalize hQ : Post Tryz.prog Tryz.f49 _ _ _ _ _ = Q; simp only [stIn, matL, matA, st00])
  simp (disch := omega) only [go_sem, AE]
  rw [← hQ]
  exact Ag (.inl rfl) rfl zV zV rfl rfl
 rw [listQ, if_neg h300]
 obtain ⟨n, hn⟩ : ∃ n, xs.length = n := ⟨_, rfl⟩
 rw [hn] at h300 hl
 (refine AB (W := fun _ => false) false AS Tryz.func49 rfl zK zL (AC ?_); generalize hQ : Post Tryz.prog Tryz.f49 _ _ _ _ _ = Q; simp only [stIn, matL, matA, st00])
 simp (disch := omega) only [go_sem, AE, hn]
 obtain ⟨R, hR⟩ : ∃ R : Nat × List Qd → St → Prop, R = fun p st => st.fr 4 = .ref 0 p.2.length 0 p.2.length ∧ st.fr 0 = .sl 9 (strA xs) [] false ∧ st.fr 13 = .int .i64 n ∧ st.fr 14 = .int .i64 p.1 ∧ (∃ ex, st.h 0 = ⟨85, p.2.map ratS, ex, true, true⟩) ∧ 0 < st.nx ∧ p.1 ≤ n ∧ (xs.take p.1).mapM parseQ = some p.2 := ⟨_, rfl⟩
 refine AM R (fun p => n - p.1) (0, []) (by rw [hR]; exact ⟨zV, zV, zV, zV, ⟨true, zU⟩, zS, zS, zS⟩) ?_
 rintro ⟨i, qs⟩ ⟨fr, h, nx⟩ hst J hJ
 rw [hR] at hst
 obtain ⟨g4, g0, g13, g14, ⟨ex, hm⟩, hnx, hi, hq⟩ := hst
 simp only at g4 g0 g13 g14 hm hnx hi hq
 have hql : qs.length = i := by have := Ft hq; simp at this; omega
 have n1 : (0 = nx) = False := by simp; omega
 have n2 : (nx = 0) = False := by simp; omega
 have hml : (qs.map ratS).length = i := by simp [hql]
 by_cases hin : i < n
 ·obtain ⟨x, hx⟩ := AI (xs := xs) (i := i) zO
  have hrd := S8 x (hs x (List.mem_of_getElem? hx))
  cases hp : parseQ x with
  | none =>
   rw [DK hx hp] at hQ
   simp only [parseV, hp] at hrd
   simp (disch := omega) only [go_sem, g4, g0, g13, g14, AQ, hx, AE, hn]
   refine AD (hrd) NI (by simp [evA, AA, ofVal, ofCell, zrI]) zP zP ?_
   simp (disch := omega) only [go_sem, g4, g0, g13, g14, zrI, K8, List.length_cons, List.length_nil, Nat.reduceAdd]
   rw [← hQ]
   exact Ag (.inl rfl) rfl zV zV rfl rfl
  | some q =>
   simp only [parseV, hp] at hrd
   have hmt := Dx hq hx hp
   have hfin : ∀ st : St, st.fr 4 = .ref 0 (i + 1) 0 (i + 1) → st.fr 0 = .sl 9 (strA xs) [] false → st.fr 13 = .int .i64 n → st.fr 14 = .int .i64 ((i + 1 : Nat) : Int) → (∃ ex, st.h 0 = ⟨85, qs.map ratS ++ [ratS q], ex, true, true⟩) → 0 < st.nx → J st := by
    intro st r4 r0 r13 r14 rh rn
    refine hJ (i + 1, qs ++ [q]) st ?_ zT
    rw [hR]
    refine ⟨by simpa [hql] using r4, r0, r13, r14, by simpa using rh, rn, hin, hmt⟩
   clear hJ hmt hR hQ hq hs
   rw [hql] at g4
   simp (disch := omega) only [go_sem, g4, g0, g13, g14, AQ, hx, AE, hn]
   refine AD (hrd) NI (by simp [evA, AA, ofVal, ofCell, zrI]) zP zP ?_
   simp (disch := omega) only [go_sem, g4, g0, g13, g14, ratS, natS, List.length_cons, List.length_nil, Nat.reduceAdd, List.take_succ_cons, List.take_zero, n1, n2, hm, hml, reach]
   exact hfin _ zV (by simp [AA, g0] <;> omega) (by simp [AA, g13] <;> omega) zV ⟨false, by simp [AA, n1, n2, hm, ratS, natS]⟩ zS
 ·obtain rfl : i = n := by omega
  rw [List.take_of_length_le zO] at hq
  rw [hq] at hQ
  simp (disch := omega) only [go_sem, g4, g0, g13, g14]
  rw [← hQ]
  have hfz : snapA (⟨_, h, nx⟩ : St) 7 (.ref 0 qs.length 0 qs.length) = some (.sl 85 (qs.map ratS) [] false, [0]) := Av (st := ⟨fr, h, nx⟩) (d := 6) (by simp [hm]) (by simp [hm]) (by simp [hm]) zS (by simp [hm]; exact List.take_of_length_le zS) (MI qs)
  exact EX (.inl rfl) rfl zV zV hfz (AL rfl) (fun a _ => Nat.zero_le _) (.inl rfl)
section
variable {P : Program} {W : FuncId → Bool} {ops : Array Oper} {os : List Oper} {fr : Nat → AV} {h : Nat → Blk} {nx : Nat} {K : St → Prop} {d t : Nat} {p : String} {af : Array Edge}
end
theorem NJ : callable Tryz.prog 42 = true := by kernel_rfl
theorem YX : callable Tryz.prog 22 = true := by kernel_rfl
theorem Qj : callable Tryz.prog 25 = true := by kernel_rfl
theorem YY : callable Tryz.prog 14 = true := by kernel_rfl
theorem Wv : callable Tryz.prog 28 = true := by kernel_rfl
def roomB (n : Nat) : Nat := if n % 6 = 5 then 0 else if n % 3 = 0 then 1 else n
theorem G9 (n : Nat) : roomB n ≤ n + 1 := by unfold roomB; split; omega; split <;> omega
theorem Jo (n : Nat) (hn : n < 9223372036854775808) : CallOk Tryz.prog 42 [.int .i64 n] (.int .i64 (roomB n)) [] := by
 unfold roomB
 by_cases h1 : n % 6 = 5
 ·rw [if_pos h1]
  (refine AB (W := fun _ => false) false AS Tryz.func42 rfl zK zL (AC ?_); generalize hQ : Post Tryz.prog Tryz.f42 _ _ _ _ _ = Q; simp only [stIn, matL, matA, st00])
  simp (disch := omega) only [go_sem, h1]
  rw [← hQ]
  exact AG (.inl rfl) rfl zV rfl
 by_cases h2 : n % 3 = 0
 ·rw [if_neg h1, if_pos h2]
  (refine AB (W := fun _ => false) false AS Tryz.func42 rfl zK zL (AC ?_); generalize hQ : Post Tryz.prog Tryz.f42 _ _ _ _ _ = Q; simp only [stIn, matL, matA, st00])
  simp (disch := omega) only [go_sem, h2]
  rw [← hQ]
  exact AG (.inl rfl) rfl zV rfl
 ·rw [if_neg h1, if_neg h2]
  (refine AB (W := fun _ => false) false AS Tryz.func42 rfl zK zL (AC ?_); generalize hQ : Post Tryz.prog Tryz.f42 _ _ _ _ _ = Q; simp only [stIn, matL, matA, st00])
  simp (disch := omega) only [go_sem]
  rw [← hQ]
  exact AG (.inl rfl) rfl zV rfl
def szL : List (List UInt8) → Int → Int
 | [], l => l
 | x :: xs, l => if l - x.length < 0 then -1 else szL xs (l - x.length)
def szS (xs : List (List UInt8)) (l : Int) : Int := if l - xs.length < 0 then -1 else szL xs (l - xs.length)
theorem Qk : ∀ {xs : List (List UInt8)} {l : Int}, 0 ≤ l → 0 ≤ szL xs l → (∀ x ∈ xs, (x.length : Int) ≤ l) ∧ szL xs l ≤ l
 | [], l, h0, _ => by simp [szL]
 | x :: xs, l, h0, h => by
  simp only [szL] at h ⊢
  by_cases hx : l - x.length < 0
  ·rw [if_pos hx] at h; omega
  ·rw [if_neg hx] at h ⊢
   have := Qk zO h
   exact ⟨by intro y hy; rcases List.mem_cons.1 hy with rfl | hy; omega; have := this.1 y hy; omega, zO⟩
theorem GP {xs : List (List UInt8)} {l : Int} (h0 : 0 ≤ l) (h : 0 ≤ szS xs l) : (xs.length : Int) ≤ l ∧ (∀ x ∈ xs, (x.length : Int) ≤ l) ∧ szS xs l ≤ l := by
 unfold szS at h ⊢
 by_cases hx : l - xs.length < 0
 ·rw [if_pos hx] at h; omega
 ·rw [if_neg hx] at h ⊢
  have := Qk zO h
  exact ⟨zO, fun x hx => by have := this.1 x hx; omega, zO⟩
theorem VX (xs : List (List UInt8)) (l : Int) (hl0 : 0 ≤ l) (hl1 : l ≤ 1000000) (hn : xs.length < 4611686018427387904) (hs : ∀ x ∈ xs, x.length < 4611686018427387904) :
  CallOk Tryz.prog 22 [.sl 9 (strA xs) [] false, .int .i64 l] (.int .i64 (szS xs l)) [] := by
 obtain ⟨n, hn'⟩ : ∃ n, xs.length = n := ⟨_, rfl⟩
 rw [hn'] at hn
 unfold szS
 rw [hn']
 by_cases h1 : l - n < 0
 ·rw [if_pos h1]
  (refine AB (W := fun _ => false) false AS Tryz.func22 rfl zK zL (AC ?_); generalize hQ : Post Tryz.prog Tryz.f22 _ _ _ _ _ = Q; simp only [stIn, matL, matA, st00])
  simp (disch := omega) only [go_sem, AE, hn']
  rw [← hQ]
  exact AG (.inl rfl) rfl zV rfl
 rw [if_neg h1]
 (refine AB (W := fun _ => false) false AS Tryz.func22 rfl zK zL (AC ?_); generalize hQ : Post Tryz.prog Tryz.f22 _ _ _ _ _ = Q; simp only [stIn, matL, matA, st00])
 simp (disch := omega) only [go_sem, AE, hn']
 refine AM (fun (p : Nat × Int) st => st.fr 0 = .sl 9 (strA xs) [] false ∧ st.fr 1 = .int .i64 p.2 ∧ st.fr 5 = .int .i64 p.1 ∧ p.1 ≤ n ∧ 0 ≤ p.2 ∧ p.2 ≤ 1000000 ∧ szL xs (l - n) = szL (xs.drop p.1) p.2) (fun p => n - p.1) (0, l - n)
  ⟨zV, zV, zV, zS, zT, zT, rfl⟩ ?_
 rintro ⟨i, q⟩ ⟨fr, h, nx⟩ ⟨g0, g1, g5, hi, hq0, hq1, hsz⟩ J hJ
 simp only at g0 g1 g5 hi hq0 hq1 hsz
 by_cases hin : i < n
 ·obtain ⟨x, hx⟩ := AI (xs := xs) (i := i) zO
  have hxl := hs x (List.mem_of_getElem? hx)
  rw [Ak hx, szL] at hsz
  by_cases hneg : q - x.length < 0
  ·rw [if_pos hneg] at hsz
   rw [hsz] at hQ
   simp (disch := omega) only [go_sem, g0, g1, g5, AE, AQ, hx, hn']
   rw [← hQ]
   exact AG (.inl rfl) rfl zV rfl
  ·rw [if_neg hneg] at hsz
   simp (disch := omega) only [go_sem, g0, g1, g5, AE, AQ, hx, hn']
   exact hJ (i + 1, q - x.length) _ ⟨(by simp [AA, g0] <;> omega), zV, zV, hin, zT, zT, hsz⟩ zT
 ·obtain rfl : i = n := by omega
  rw [List.drop_eq_nil_of_le zO, szL] at hsz
  rw [hsz] at hQ
  simp (disch := omega) only [go_sem, g0, g1, g5, AE, hn']
  rw [← hQ]
  exact AG (.inl rfl) rfl (by simp [AA, g1] <;> omega) rfl
theorem XV (xs ys : List (List UInt8)) (hx : xs.length < 4611686018427387904) (hy : ys.length < 4611686018427387904) : CallOk Tryz.prog 14 [.sl 9 (strA xs) [] false, .sl 9 (strA ys) [] false] (.bool (decide (xs = ys))) [] := by
 by_cases hl : xs.length = ys.length
 ·obtain ⟨n, hn⟩ : ∃ n, xs.length = n := ⟨_, rfl⟩
  have hn2 : ys.length = n := by omega
  rw [hn] at hx
  clear hl hy
  (refine AB (W := fun _ => false) false AS Tryz.func14 rfl zK zL (AC ?_); generalize hQ : Post Tryz.prog Tryz.f14 _ _ _ _ _ = Q; simp only [stIn, matL, matA, st00])
  simp (disch := omega) only [go_sem, AE, hn, hn2]
  refine AM (fun (i : Nat) st => st.fr 0 = .sl 9 (strA xs) [] false ∧ st.fr 1 = .sl 9 (strA ys) [] false ∧ st.fr 5 = .int .i64 i ∧ i ≤ n ∧ xs.take i = ys.take i) (fun i => n - i) 0 ⟨zV, zV, zV, zO, zS⟩ ?_
  rintro i ⟨fr, h, nx⟩ ⟨g0, g1, g5, hi, he⟩ J hJ
  simp only at g0 g1 g5
  by_cases hin : i < n
  ·obtain ⟨x, hxx⟩ := AI (xs := xs) (i := i) zO
   obtain ⟨y, hyy⟩ := AI (xs := ys) (i := i) zO
   by_cases hxy : x = y
   ·subst hxy
    have e : (x == x) = true := by simp
    simp (disch := omega) only [go_sem, g0, g1, g5, AE, AQ, hxx, hyy, hn, hn2, e]
    exact hJ (i + 1) _ ⟨(by simp [AA, g0] <;> omega), (by simp [AA, g1] <;> omega), zV, hin, by rw [List.take_add_one, List.take_add_one, hxx, hyy, he]⟩ zO
   ·have e : (x == y) = false := by simpa using hxy
    have hne : xs ≠ ys := fun h => hxy (by rw [h, hyy] at hxx; exact (Option.some.inj hxx).symm)
    have hd : decide (xs = ys) = false := by simpa using hne
    rw [hd] at hQ
    simp (disch := omega) only [go_sem, g0, g1, g5, AE, AQ, hxx, hyy, hn, hn2, e]
    rw [← hQ]
    exact AG (.inl rfl) rfl zV rfl
  ·have hd : decide (xs = ys) = true := by
    rw [List.take_of_length_le zO, List.take_of_length_le zO] at he; simpa using he
   rw [hd] at hQ
   simp (disch := omega) only [go_sem, g0, g1, g5, AE, hn]
   rw [← hQ]
   exact AG (.inl rfl) rfl zV rfl
 ·have hne : decide (xs = ys) = false := by simp; exact fun h => hl (by rw [h])
  rw [hne]
  (refine AB (W := fun _ => false) false AS Tryz.func14 rfl zK zL (AC ?_); generalize hQ : Post Tryz.prog Tryz.f14 _ _ _ _ _ = Q; simp only [stIn, matL, matA, st00])
  simp (disch := omega) only [go_sem, AE]
  rw [← hQ]
  exact AG (.inl rfl) rfl zV rfl
def spareT : List UInt8 := [126, 115, 112, 97, 114, 101, 126]
def spareL (n : Nat) : List (List UInt8) := List.replicate (roomB n) spareT
theorem Fu {xs : List (List UInt8)} {i : Nat} {v : List UInt8} : (strA xs).set i (.str v) = strA (xs.set i v) := by simp [strA, List.map_set]
theorem K9 {n : Nat} : List.replicate n (AV.str []) = strA (List.replicate n []) := by simp [strA]
theorem Ec {xs ys : List (List UInt8)} : strA xs ++ strA ys = strA (xs ++ ys) := by simp [strA]
theorem Dy {xs : List (List UInt8)} {n : Nat} : (strA xs).take n = strA (xs.take n) := by simp [strA, List.map_take]
theorem GQ {xs : List (List UInt8)} {n : Nat} : (strA xs).drop n = strA (xs.drop n) := by simp [strA, List.map_drop]
theorem Fv {α : Type} {a : List α} {k : Nat} {z v : α} : (a ++ List.replicate (k + 1) z).set a.length v = (a ++ [v]) ++ List.replicate k z := by
 rw [List.set_append_right _ _ (Nat.le_refl _), Nat.sub_self, List.replicate_succ, List.set_cons_zero]; simp
theorem VY (xs : List (List UInt8)) (b : Bool) (hb : b = false ∨ xs ≠ []) (hn : xs.length ≤ 1000000) : CallOk Tryz.prog 25 [.sl 9 (strA xs) [] false, .bool b] (.own 9 (strA xs) (strA (spareL xs.length)) true) [] := by
 obtain ⟨n, hn'⟩ : ∃ n, xs.length = n := ⟨_, rfl⟩
 rw [hn'] at hn ⊢
 obtain ⟨r, hr⟩ : ∃ r, roomB n = r := ⟨_, rfl⟩
 have hrl := G9 n
 rw [hr] at hrl
 have hsp : spareL n = List.replicate r spareT := by rw [spareL, hr]
 have hroom := Jo n zO
 rw [hr] at hroom
 have hne : b = true → ¬ n = 0 := fun h h0 => by rcases hb with h' | h'; rw [h] at h'; cases h'; exact h' (List.length_eq_zero_iff.1 zO)
 (refine AB (W := fun _ => false) true AS Tryz.func25 rfl zK zL (AC ?_); generalize hQ : Post Tryz.prog Tryz.f25 _ _ _ _ _ = Q; simp only [stIn, matL, matA, st00])
 obtain ⟨R, hR⟩ : ∃ R : Nat → St → Prop, R = fun i st => st.fr 0 = .sl 9 (strA xs) [] false ∧ st.fr 5 = .ref 0 (n + r) 0 (n + r) ∧ st.fr 6 = .int .i64 i ∧ i ≤ n ∧ st.h 0 = ⟨9, strA (xs.take i ++ List.replicate (n + r - i) []), true, true, true⟩ := ⟨_, rfl⟩
 obtain ⟨R2, hR2⟩ : ∃ R : Nat → St → Prop, R = fun i st => st.fr 0 = .sl 9 (strA xs) [] false ∧ st.fr 5 = .ref 0 (n + r) 0 (n + r) ∧ st.fr 7 = .int .i64 ((n + i : Nat) : Int) ∧ i ≤ r ∧ st.h 0 = ⟨9, strA ((xs ++ List.replicate i spareT) ++ List.replicate (r - i) []), true, true, true⟩ := ⟨_, rfl⟩
 cases b with
 | false =>
  simp (disch := omega) only [go_sem, AE, hn']
  refine AD hroom NJ (by simp [evA, AA]) zP rfl ?_
  simp (disch := omega) only [go_sem, AE, hn', reach, K9]
  refine AM R (fun i => n - i) 0 (by rw [hR]; exact ⟨zV, zV, zV, zO, zU⟩) ?_
  rintro i ⟨fr, h, nx⟩ hst J hJ
  rw [hR] at hst
  obtain ⟨g0, g5, g6, hi, hm⟩ := hst
  simp only at g0 g5 g6 hm
  by_cases hin : i < n
  ·obtain ⟨x, hx⟩ := AI (xs := xs) (i := i) zO
   have hal : (xs.take i ++ List.replicate (n + r - i) ([] : List UInt8)).length = n + r := by simp; omega
   have hti : (xs.take i).length = i := by simp; omega
   have hset : (xs.take i ++ List.replicate (n + r - i) ([] : List UInt8)).set i x = xs.take (i + 1) ++ List.replicate (n + r - (i + 1)) [] := by
    have h1 := Fv (a := xs.take i) (k := n + r - (i + 1)) (z := ([] : List UInt8)) (v := x)
    rw [hti, show n + r - (i + 1) + 1 = n + r - i by omega] at h1
    rw [h1, List.take_add_one, hx]; rfl
   have hget : (xs.take i ++ List.replicate (n + r - i) ([] : List UInt8))[i]? = some [] := by
    rw [List.getElem?_append_right zO, hti, Nat.sub_self, List.getElem?_replicate, if_pos zO]
   simp (disch := omega) only [go_sem, g0, g5, g6, AE, AQ, hn', hx, hm, hal, Fu, hset, hget]
   exact hJ (i + 1) _ (by rw [hR]; exact ⟨(by simp [AA, g0] <;> omega), (by simp [AA, g5] <;> omega), zV, hin, zU⟩) zO
  ·obtain rfl : i = n := by omega
   rw [List.take_of_length_le zO, show i + r - i = r by omega] at hm
   clear hJ hR
   simp (disch := omega) only [go_sem, g0, g5, g6, AE, hn']
   refine AM R2 (fun i => r - i) 0 (by rw [hR2]; exact ⟨(by simp [AA, g0] <;> omega), (by simp [AA, g5] <;> omega), zV, zO, by simpa using hm⟩) ?_
   clear g0 g5 g6 hm
   rintro j ⟨fr, h, nx⟩ hst J hJ
   rw [hR2] at hst
   obtain ⟨g0, g5, g7, hj, hm⟩ := hst
   simp only at g0 g5 g7 hm
   have hal : ((xs ++ List.replicate j spareT) ++ List.replicate (r - j) ([] : List UInt8)).length = i + r := by simp; omega
   by_cases hjr : j < r
   ·have hti : (xs ++ List.replicate j spareT).length = i + j := by simp; omega
    have hset : ((xs ++ List.replicate j spareT) ++ List.replicate (r - j) ([] : List UInt8)).set (i + j) [126, 115, 112, 97, 114, 101, 126] = (xs ++ List.replicate (j + 1) spareT) ++ List.replicate (r - (j + 1)) [] := by
     have h1 := Fv (a := xs ++ List.replicate j spareT) (k := r - (j + 1)) (z := ([] : List UInt8)) (v := spareT)
     rw [hti, show r - (j + 1) + 1 = r - j by omega] at h1
     rw [show ([126, 115, 112, 97, 114, 101, 126] : List UInt8) = spareT from rfl, h1, List.replicate_succ', List.append_assoc xs]
    have hget : ((xs ++ List.replicate j spareT) ++ List.replicate (r - j) ([] : List UInt8))[i + j]? = some [] := by
     rw [List.getElem?_append_right zO, hti, Nat.sub_self, List.getElem?_replicate, if_pos zO]
    simp (disch := omega) only [go_sem, g0, g5, g7, AE, AQ, hm, hal, Fu, hset, hget]
    exact hJ (j + 1) _ (by rw [hR2]; exact ⟨(by simp [AA, g0] <;> omega), (by simp [AA, g5] <;> omega), zV, hjr, zU⟩) zO
   ·obtain rfl : j = r := by omega
    rw [Nat.sub_self, List.replicate_zero, List.append_nil] at hm hal
    simp (disch := omega) only [go_sem, g0, g5, g7, AE, hm, hal, hn']
    rw [← hQ]
    exact Fl (id := 0) (n := i + j) (len := i) (.inl rfl) rfl zV (by simp [hm]) (by simp [hm, AE]; omega) (by simp [hm]) (by simp [hm]) zO (by simp [hm, Dy, ← hn']) (by rw [hsp]; simp [hm, GQ, ← hn']) (by simp [hm]) (AU _) (AU _)
 | true =>
  have hn0 := hne rfl
  simp (disch := omega) only [go_sem, AE, hn']
  refine AD hroom NJ (by simp [evA, AA]) zP rfl ?_
  simp (disch := omega) only [go_sem, AE, hn', reach, K9]
  refine AM R (fun i => n - i) 0 (by rw [hR]; exact ⟨zV, zV, zV, zO, zU⟩) ?_
  rintro i ⟨fr, h, nx⟩ hst J hJ
  rw [hR] at hst
  obtain ⟨g0, g5, g6, hi, hm⟩ := hst
  simp only at g0 g5 g6 hm
  by_cases hin : i < n
  ·obtain ⟨x, hx⟩ := AI (xs := xs) (i := i) zO
   have hal : (xs.take i ++ List.replicate (n + r - i) ([] : List UInt8)).length = n + r := by simp; omega
   have hti : (xs.take i).length = i := by simp; omega
   have hset : (xs.take i ++ List.replicate (n + r - i) ([] : List UInt8)).set i x = xs.take (i + 1) ++ List.replicate (n + r - (i + 1)) [] := by
    have h1 := Fv (a := xs.take i) (k := n + r - (i + 1)) (z := ([] : List UInt8)) (v := x)
    rw [hti, show n + r - (i + 1) + 1 = n + r - i by omega] at h1
    rw [h1, List.take_add_one, hx]; rfl
   have hget : (xs.take i ++ List.replicate (n + r - i) ([] : List UInt8))[i]? = some [] := by
    rw [List.getElem?_append_right zO, hti, Nat.sub_self, List.getElem?_replicate, if_pos zO]
   simp (disch := omega) only [go_sem, g0, g5, g6, AE, AQ, hn', hx, hm, hal, Fu, hset, hget]
   exact hJ (i + 1) _ (by rw [hR]; exact ⟨(by simp [AA, g0] <;> omega), (by simp [AA, g5] <;> omega), zV, hin, zU⟩) zO
  ·obtain rfl : i = n := by omega
   rw [List.take_of_length_le zO, show i + r - i = r by omega] at hm
   clear hJ hR
   simp (disch := omega) only [go_sem, g0, g5, g6, AE, hn']
   refine AM R2 (fun i => r - i) 0 (by rw [hR2]; exact ⟨(by simp [AA, g0] <;> omega), (by simp [AA, g5] <;> omega), zV, zO, by simpa using hm⟩) ?_
   clear g0 g5 g6 hm
   rintro j ⟨fr, h, nx⟩ hst J hJ
   rw [hR2] at hst
   obtain ⟨g0, g5, g7, hj, hm⟩ := hst
   simp only at g0 g5 g7 hm
   have hal : ((xs ++ List.replicate j spareT) ++ List.replicate (r - j) ([] : List UInt8)).length = i + r := by simp; omega
   by_cases hjr : j < r
   ·have hti : (xs ++ List.replicate j spareT).length = i + j := by simp; omega
    have hset : ((xs ++ List.replicate j spareT) ++ List.replicate (r - j) ([] : List UInt8)).set (i + j) [126, 115, 112, 97, 114, 101, 126] = (xs ++ List.replicate (j + 1) spareT) ++ List.replicate (r - (j + 1)) [] := by
     have h1 := Fv (a := xs ++ List.replicate j spareT) (k := r - (j + 1)) (z := ([] : List UInt8)) (v := spareT)
     rw [hti, show r - (j + 1) + 1 = r - j by omega] at h1
     rw [show ([126, 115, 112, 97, 114, 101, 126] : List UInt8) = spareT from rfl, h1, List.replicate_succ', List.append_assoc xs]
    have hget : ((xs ++ List.replicate j spareT) ++ List.replicate (r - j) ([] : List UInt8))[i + j]? = some [] := by
     rw [List.getElem?_append_right zO, hti, Nat.sub_self, List.getElem?_replicate, if_pos zO]
    simp (disch := omega) only [go_sem, g0, g5, g7, AE, AQ, hm, hal, Fu, hset, hget]
    exact hJ (j + 1) _ (by rw [hR2]; exact ⟨(by simp [AA, g0] <;> omega), (by simp [AA, g5] <;> omega), zV, hjr, zU⟩) zO
   ·obtain rfl : j = r := by omega
    rw [Nat.sub_self, List.replicate_zero, List.append_nil] at hm hal
    simp (disch := omega) only [go_sem, g0, g5, g7, AE, hm, hal, hn']
    rw [← hQ]
    exact Fl (id := 0) (n := i + j) (len := i) (.inl rfl) rfl zV (by simp [hm]) (by simp [hm, AE]; omega) (by simp [hm]) (by simp [hm]) zO (by simp [hm, Dy, ← hn']) (by rw [hsp]; simp [hm, GQ, ← hn']) (by simp [hm]) (AU _) (AU _)
theorem NK : CallOk Tryz.prog 25 [.sl 9 (strA []) [] false, .bool true] .nil [] := by
 (refine AB (W := fun _ => false) false AS Tryz.func25 rfl zK zL (AC ?_); generalize hQ : Post Tryz.prog Tryz.f25 _ _ _ _ _ = Q; simp only [stIn, matL, matA, st00])
 simp (disch := omega) only [go_sem, AE, List.length_nil]
 rw [← hQ]
 exact AG (.inl rfl) rfl zV rfl
theorem Ql {st : St} {a b x y : AV} {i j : List Nat} (h1 : snapA st 8 a = some (x, i)) (h2 : snapA st 8 b = some (y, j)) : snapL (snapA st 8) [a, b] = some ([x, y], i ++ j) := by simp [snapL, h1, h2]
theorem I1 {st : St} {id n len : Nat} {xs : List (List UInt8)} {ex gr : Bool} (h : st.h id = ⟨9, strA xs, ex, gr, true⟩) (hn : xs.length = n) (hl : len ≤ n) : snapA st 8 (.ref id n 0 len) = some (.sl 9 (strA (xs.take len)) [] false, [id]) :=
 Av (d := 7) (by rw [h]) (by rw [h, AE, hn]) (by rw [h]) zO (by rw [h, List.drop_zero, Dy]) (AU _)
def qd (q : Rat) : Qd := (decide (q.num < 0), q.num.natAbs, q.den)
def sg (b : Bool) (m : Nat) : Int := if b then -(m : Int) else m
theorem Qm (b : Bool) (m : Nat) : (sg b m).natAbs = m := by cases b <;> simp [sg]
theorem VZ (b : Bool) (m : Nat) : decide (sg b m < 0) = (b && decide (m ≠ 0)) := by
 cases b
 ·simp [sg]
 ·simp only [sg, if_true, Bool.true_and]
  exact decide_eq_decide.2 zO
theorem Va (b : Bool) (m g : Nat) (h : g ∣ m) : sg b m / (g : Int) = sg b (m / g) := by
 cases b
 ·simp [sg]
 ·simp only [sg, if_true]
  rw [Int.neg_ediv_of_dvd (Int.natCast_dvd_natCast.2 h)]; simp
theorem LA (b : Bool) (m n : Nat) (hn : n ≠ 0) : qd (mkRat (sg b m) n) = (b && decide (m ≠ 0), m / Nat.gcd m n, n / Nat.gcd m n) := by
 unfold qd
 have hg : 0 < Nat.gcd m n := Nat.gcd_pos_of_pos_right _ (Nat.pos_of_ne_zero hn)
 rw [Rat.num_mkRat, Rat.den_mkRat, if_neg hn, if_neg hn, Qm, Nat.gcd_comm n m, Va _ _ _ (Nat.gcd_dvd_left m n), Qm, VZ]
 have : (m / Nat.gcd m n ≠ 0) ↔ m ≠ 0 := by
  constructor
  ·rintro h rfl; simp at h
  ·intro h h'
   have := Nat.div_mul_cancel (Nat.gcd_dvd_left m n)
   rw [h'] at this; omega
 simp only [this]
theorem Qn (q : Rat) : sg (qd q).1 (qd q).2.1 = q.num := by
 by_cases h : q.num < 0 <;> simp [qd, sg, h] <;> omega
def fits (n : Nat) (q : Rat) : Prop := q.num.natAbs < 2 ^ n ∧ q.den < 2 ^ n
theorem Az {m n : Nat} {q : Rat} (h : fits m q) (hmn : m ≤ n) : fits n q :=
 ⟨Nat.lt_of_lt_of_le h.1 (Nat.pow_le_pow_right zD hmn), Nat.lt_of_lt_of_le h.2 (Nat.pow_le_pow_right zD hmn)⟩
theorem FW {n d : Nat} {a : Int} (h1 : a.natAbs < 2 ^ n) (h2 : d < 2 ^ n) (hn : 0 < n) : fits n (mkRat a d) := by
 unfold fits
 rw [Rat.num_mkRat, Rat.den_mkRat]
 have h1n : 1 < 2 ^ n := Nat.one_lt_two_pow zO
 split
 ·simp; omega
 ·refine ⟨Nat.lt_of_le_of_lt ?_ h1, Nat.lt_of_le_of_lt (Nat.div_le_self _ _) h2⟩
  rw [Int.natAbs_ediv_of_dvd (Int.ofNat_dvd_left.2 (Nat.gcd_dvd_right _ _))]
  exact Nat.div_le_self _ _
theorem AW {a b m n : Nat} (h1 : a < 2 ^ m) (h2 : b < 2 ^ n) : a * b < 2 ^ (m + n) := by
 rw [Nat.pow_add]
 exact Nat.mul_lt_mul'' h1 h2
theorem Ed {m n : Nat} {a b : Rat} (h1 : fits m a) (h2 : fits n b) (hm : 0 < m) : fits (m + n) (a * b) := by
 rw [Rat.mul_def']
 exact FW (by rw [Int.natAbs_mul]; exact AW h1.1 h2.1) (AW h1.2 h2.2) zO
theorem Dz {m n : Nat} {a b : Rat} (h1 : fits m a) (h2 : fits n b) : fits (m + n + 1) (a + b) := by
 rw [Rat.add_def']
 have e : 2 ^ (m + n + 1) = 2 ^ (m + n) + 2 ^ (m + n) := by rw [Nat.pow_succ]; omega
 refine FW ?_ (by have := AW h1.2 h2.2; omega) zO
 have k1 := AW h1.1 h2.2
 have k2 := AW h2.1 h1.2
 rw [Nat.add_comm n m] at k2
 have := Int.natAbs_add_le (a.num * b.den) (b.num * a.den)
 rw [Int.natAbs_mul, Int.natAbs_mul] at this
 simp only [Int.natAbs_natCast] at this
 omega
theorem Cb {m : Nat} {a : Rat} (h : fits m a) : fits m (-a) := by simpa [fits] using h
theorem Qo (a : Rat) : qd (-a) = (!(qd a).1 && decide ((qd a).2.1 ≠ 0), (qd a).2.1, (qd a).2.2) := by
 simp only [qd, Rat.neg_num, Rat.neg_den, Int.natAbs_neg]
 congr 1
 by_cases h : a.num < 0
 ·simp [h]; omega
 ·have : (0 < a.num) ↔ ¬ a.num = 0 := by omega
  simp [h, this]
def sgnQ (q : Qd) : Int := if q.2.1 = 0 then 0 else if q.1 then -1 else 1
def cmpN (m n : Nat) : Int := if m < n then -1 else if n < m then 1 else 0
def cmpQ (a b : Qd) : Int := if sgnQ a ≠ sgnQ b then sgnQ a - sgnQ b else if a.1 then - cmpN (a.2.1 * b.2.2) (b.2.1 * a.2.2) else cmpN (a.2.1 * b.2.2) (b.2.1 * a.2.2)
theorem Jp (a : Rat) : sgnQ (qd a) = a.num.sign := by
 simp only [sgnQ, qd]
 by_cases h : a.num = 0
 ·simp [h]
 ·by_cases h1 : a.num < 0
  ·simp [h, h1, Int.sign_eq_neg_one_of_neg h1]
  ·simp [h, h1, Int.sign_eq_one_of_pos (show 0 < a.num by omega)]
theorem MJ (a b : Rat) : (cmpQ (qd a) (qd b) < 0 ↔ a < b) ∧ (cmpQ (qd a) (qd b) = 0 ↔ a = b) := by
 have hda := a.den_pos
 have hdb := b.den_pos
 rw [Rat.lt_iff, Rat.eq_iff_mul_eq_mul]
 simp only [cmpQ, Jp]
 by_cases hs : a.num.sign = b.num.sign
 ·simp only [hs, ne_eq, not_true_eq_false, if_false]
  simp only [qd, cmpN]
  by_cases h1 : a.num < 0
  ·have h2 : b.num < 0 := by rw [Int.sign_eq_neg_one_of_neg h1] at hs; exact Int.sign_eq_neg_one_iff_neg.1 hs.symm
   obtain ⟨m, hm⟩ : ∃ m : Nat, a.num = -m := ⟨a.num.natAbs, zO⟩
   obtain ⟨n, hn⟩ : ∃ n : Nat, b.num = -n := ⟨b.num.natAbs, zO⟩
   simp only [hm, hn, Int.natAbs_neg, Int.natAbs_natCast, Int.neg_mul]
   have e1 : ((m : Int) * b.den) = ((m * b.den : Nat) : Int) := by simp
   have e2 : ((n : Int) * a.den) = ((n * a.den : Nat) : Int) := by simp
   rw [e1, e2]
   generalize m * b.den = X; generalize n * a.den = Y
   rw [hm] at h1
   simp only [h1, decide_true, if_true]
   split
   ·omega
   ·split <;> omega
  ·obtain ⟨m, hm⟩ : ∃ m : Nat, a.num = m := ⟨a.num.natAbs, zO⟩
   obtain ⟨n, hn⟩ : ∃ n : Nat, b.num = n := ⟨b.num.natAbs, by
    have : ¬ b.num < 0 := fun h => by rw [Int.sign_eq_neg_one_of_neg h] at hs; exact h1 (Int.sign_eq_neg_one_iff_neg.1 hs)
    omega⟩
   simp only [hm, hn, Int.natAbs_natCast]
   have e1 : ((m : Int) * b.den) = ((m * b.den : Nat) : Int) := by simp
   have e2 : ((n : Int) * a.den) = ((n * a.den : Nat) : Int) := by simp
   rw [e1, e2]
   generalize m * b.den = X; generalize n * a.den = Y
   have h0 : ¬ ((m : Int) < 0) := by omega
   simp only [h0, decide_false, Bool.false_eq_true, if_false]
   split
   ·omega
   ·split <;> omega
 ·simp only [ne_eq, hs, not_false_eq_true, if_true]
  have ha : a.num * b.den < 0 ↔ a.num < 0 := by
   constructor
   ·intro h; exact Int.not_le.1 fun h' => by have := Int.mul_nonneg h' (Int.natCast_nonneg b.den); omega
   ·intro h; exact Int.mul_neg_of_neg_of_pos h zO
  have ha' : 0 < a.num * b.den ↔ 0 < a.num := by
   constructor
   ·intro h; exact Int.not_le.1 fun h' => by have := Int.mul_nonpos_of_nonpos_of_nonneg h' (Int.natCast_nonneg b.den); omega
   ·intro h; exact Int.mul_pos h zO
  have hb : b.num * a.den < 0 ↔ b.num < 0 := by
   constructor
   ·intro h; exact Int.not_le.1 fun h' => by have := Int.mul_nonneg h' (Int.natCast_nonneg a.den); omega
   ·intro h; exact Int.mul_neg_of_neg_of_pos h zO
  have hb' : 0 < b.num * a.den ↔ 0 < b.num := by
   constructor
   ·intro h; exact Int.not_le.1 fun h' => by have := Int.mul_nonpos_of_nonpos_of_nonneg h' (Int.natCast_nonneg a.den); omega
   ·intro h; exact Int.mul_pos h zO
  have sg : ∀ x : Int, (x < 0 ∧ x.sign = -1) ∨ (x = 0 ∧ x.sign = 0) ∨ (0 < x ∧ x.sign = 1) := fun x => by
   rcases Int.lt_trichotomy x 0 with h | h | h
   ·exact .inl ⟨h, Int.sign_eq_neg_one_of_neg h⟩
   ·exact .inr (.inl ⟨h, by simp [h]⟩)
   ·exact .inr (.inr ⟨h, Int.sign_eq_one_of_pos h⟩)
  generalize a.num * b.den = X at *
  generalize b.num * a.den = Y at *
  rcases sg a.num with ⟨h1, h2⟩ | ⟨h1, h2⟩ | ⟨h1, h2⟩ <;> rcases sg b.num with ⟨h3, h4⟩ | ⟨h3, h4⟩ | ⟨h3, h4⟩ <;> rw [h2, h4] at hs ⊢ <;> omega
inductive Tok (p : Prop) : Type | mk
def Hid (p : Prop) (_ : Tok p) : Prop := p
theorem XW {p q : Prop} (h : q → p) : p = (Hid p .mk ∨ q) := propext ⟨.inl, fun h' => h'.elim id h⟩
structure CC where
 d : Option Tmp
 ops : Array Oper
 os : List Oper
 fr : Nat → AV
 h : Nat → Blk
 nx : Nat
 K : St → Prop
inductive TokC (c : CC) : Type | mk
def callW (P : Program) (W : FuncId → Bool) (g : FuncId) (al : List AV) (c : CC) (_ : TokC c) : Prop :=
 callable P g = true ∧ ∃ x st', InOk P ⟨c.fr, c.h, c.nx⟩ g al x st' ∧ (W g = false → st'.h = c.h ∧ st'.nx = c.nx) ∧ (W g = false → AV.pureL al = true → ∀ h nx, InOk P ⟨c.fr, h, nx⟩ g al x ⟨c.fr, h, nx⟩) ∧ wpos P W c.ops c.os (st'.put c.d x) c.K
section
variable {P : Program} {W : FuncId → Bool} {ops : Array Oper} {os : List Oper} {fr : Nat → AV} {h : Nat → Blk} {nx : Nat} {K : St → Prop} {d : Option Tmp} {t : Nat} {p : String} {af : Array Edge}
theorem S9 {g : FuncId} {args : Array Operand} {ts : Array TypeId} : wpos P W ops (⟨d, .call { callee := .value (.func g), args := args, argTypes := ts }, t, p, af, none⟩ :: os) ⟨fr, h, nx⟩ K =
  callW P W g (args.toList.map (evA fr)) ⟨d, ops, os, fr, h, nx, K⟩ .mk := by
 simp only [wpos, wpo, guardA, opK, callW, ValCall]
 refine propext ⟨fun hw => ?_, fun hw => ⟨fun _ => ?_, zS⟩⟩
 ·obtain ⟨x, st', ⟨g', first, cap, h1, h2, h3, h4, h5⟩, hk⟩ := hw.1 trivial
  have h1' : AV.fn (.func g) [] [] = AV.fn (.func g') first cap := h1
  injection h1' with e1 e2 e3
  injection e1 with e1
  subst e1; subst e2; subst e3
  have e : St.ev ⟨fr, h, nx⟩ = evA fr := by funext x; rfl
  rw [e] at h3 h5
  exact ⟨h2, x, st', by simpa using h3, fun hg => h4 (by simpa [isW] using hg), fun hg hp h nx => by simpa using h5 (by simpa [isW] using hg) (by simpa using hp) h nx, hk⟩
 ·obtain ⟨h2, x, st', h3, h4, h5, hk⟩ := hw
  have e : St.ev ⟨fr, h, nx⟩ = evA fr := by funext x; rfl
  exact ⟨x, st', ⟨g, [], [], rfl, h2, by rw [e]; simpa using h3, fun hg => h4 (by simpa [isW] using hg), fun hg hp h nx => by rw [e] at hp ⊢; simpa using h5 (by simpa [isW] using hg) (by simpa using hp) h nx⟩, hk⟩
end
abbrev CW (P : Program) (g : FuncId) (al : List AV) (r : AV) : Prop :=
 ∀ (W : FuncId → Bool) (d : Option Tmp) (ops : Array Oper) (os : List Oper) (fr : Nat → AV) (h : Nat → Blk) (nx : Nat) (K : St → Prop) (t : TokC ⟨d, ops, os, fr, h, nx, K⟩),
  callW P W g al ⟨d, ops, os, fr, h, nx, K⟩ t = (Hid (callW P W g al ⟨d, ops, os, fr, h, nx, K⟩ .mk) .mk ∨ wpos P W ops os (St.put ⟨fr, h, nx⟩ d r) K)
theorem cw {P : Program} {g : FuncId} {al : List AV} {r : AV} (hg : callable P g = true) (hp : AV.pureL al = true) (hr : r.pure = true) (hc : CallOk P g al r []) : CW P g al r := by
 intro W d ops os fr h nx K t
 cases t
 exact XW fun hk => ⟨hg, r, ⟨fr, h, nx⟩, hc.inOk hp hr, fun _ => ⟨rfl, rfl⟩, fun _ _ _ _ => hc.inOk hp hr, hk⟩
section
variable {P : Program} {W : FuncId → Bool} {d : Option Tmp} {ops : Array Oper} {os : List Oper} {fr : Nat → AV} {h : Nat → Blk} {nx : Nat} {K : St → Prop} {t : TokC ⟨d, ops, os, fr, h, nx, K⟩} {g : FuncId} {al : List AV}
theorem Aj {x : AV} {h' : Nat → Blk} {nx' : Nat} (hi : InOk P ⟨fr, h, nx⟩ g al x ⟨fr, h', nx'⟩) (hg : callable P g = true) (hW : W g = true ∨ h' = h ∧ nx' = nx) (hk : wpos P W ops os (St.put ⟨fr, h', nx'⟩ d x) K) (hpu : W g = true ∨ AV.pureL al = false := by first | exact .inl rfl | exact .inr (by simp [AV.pureL, AV.pure])) : callW P W g al ⟨d, ops, os, fr, h, nx, K⟩ t :=
 ⟨hg, x, ⟨fr, h', nx'⟩, hi, fun hw => hW.elim (fun h => by rw [h] at hw; cases hw) id, fun hw hp => hpu.elim (fun h => by rw [h] at hw; cases hw) (fun h => by rw [h] at hp; cases hp), hk⟩
theorem Qp (pm : List PM) {sargs : List AV} {sids : List Nat} {io : List (Nat × Nat × Nat)} {eat : List Nat} {r : AV} {outs : List (List AV)}
  (hc : CallOk P g sargs r outs) (hg : callable P g = true) (hp : passL ⟨fr, h, nx⟩ pm al = some (sargs, sids, io, eat))
  (hw : W g = false → (matA true r ⟨fr, eatH (outH h io outs) eat, nx⟩).2.h = h ∧ (matA true r ⟨fr, eatH (outH h io outs) eat, nx⟩).2.nx = nx)
  (h1 : (io.map (·.1) ++ eat).Nodup) (h2 : ∀ i ∈ sids, i ∉ io.map (·.1) ++ eat) (h3 : sids = [] ∨ r.solid = true ∧ AV.solidL outs.flatten = true) (h4 : io = [] ∨ eat = [] ∧ outs.length = io.length)
  (hpu : W g = false → AV.pureL al = true → ∀ h0 nx0, InOk P ⟨fr, h0, nx0⟩ g al (matA true r ⟨fr, eatH (outH h io outs) eat, nx⟩).1 ⟨fr, h0, nx0⟩)
  (hk : wpos P W ops os ((matA true r ⟨fr, eatH (outH h io outs) eat, nx⟩).2.put d (matA true r ⟨fr, eatH (outH h io outs) eat, nx⟩).1) K) : callW P W g al ⟨d, ops, os, fr, h, nx, K⟩ t :=
 ⟨hg, _, _, CallStep.inOk ⟨pm, sargs, sids, io, eat, r, outs, hp, hc, h1, h2, h3, h4, Prod.ext rfl rfl⟩, hw, hpu, hk⟩
theorem Gn {st : St} : ∀ {al sargs : List AV} {ids : List Nat}, snapL (snapA st 8) al = some (sargs, ids) → passL st (al.map fun _ => .snap) al = some (sargs, ids, [], [])
 | [], _, _, h => by simp only [snapL, Option.some.injEq, Prod.mk.injEq] at h; obtain ⟨rfl, rfl⟩ := h; rfl
 | a :: al, sargs, ids, h => by
  obtain ⟨y, i, ys, is, h1, h2, h3⟩ := CJ h
  simp only [Prod.mk.injEq] at h3
  obtain ⟨rfl, rfl⟩ := h3
  simp [passL, passA, h1, Gn h2]
theorem Jq {as1 : List AV} {ids : List Nat} {r : AV} (hc : CallOk P g as1 r []) (hg : callable P g = true) (hs : snapL (snapA ⟨fr, h, nx⟩ 8) al = some (as1, ids)) (hgr : ∀ i ∈ ids, (h i).gr = true) (hp : AV.pureL as1 = true) (hr : r.pure = true) (hW : W g = true)
  (hk : wpos P W ops os (St.put ⟨fr, eatH h ids, nx⟩ d r) K) : callW P W g al ⟨d, ops, os, fr, h, nx, K⟩ t :=
 Aj (Gi hs hgr (hc.inOk hp hr)) hg (.inl hW) hk (.inl hW)
theorem Jr {sargs : List AV} {ids : List Nat} {r : AV} (hc : CallOk P g sargs r []) (hg : callable P g = true) (hs : snapL (snapA ⟨fr, h, nx⟩ 8) al = some (sargs, ids)) (hr : r.pure = true) (ht : r.solid = true)
  (hk : wpos P W ops os (St.put ⟨fr, h, nx⟩ d r) K) : callW P W g al ⟨d, ops, os, fr, h, nx, K⟩ t := by
 have he : eatH (outH h [] []) [] = h := by funext i; simp [eatH, outH]
 refine Qp (pm := al.map fun _ => .snap) (outs := []) hc hg (Gn hs) ?_ zS zS (.inr ⟨ht, rfl⟩) (.inl rfl) ?_ ?_
 ·intro _; rw [BN _ _ _ hr, he]; exact ⟨rfl, rfl⟩
 ·intro _ hp h0 nx0
  rw [Cj hp] at hs; cases hs
  rw [BN _ _ _ hr]; exact hc.inOk' hp hr
 ·rw [BN _ _ _ hr, he]; exact hk
theorem TA {r : AV} (hc : CallOk P g al r []) (hg : callable P g = true) (hp : AV.pureL al = true) (hr : r.pure = true) (hk : wpos P W ops os (St.put ⟨fr, h, nx⟩ d r) K) : callW P W g al ⟨d, ops, os, fr, h, nx, K⟩ t :=
 ⟨hg, r, ⟨fr, h, nx⟩, hc.inOk hp hr, fun _ => ⟨rfl, rfl⟩, fun _ _ _ _ => hc.inOk hp hr, hk⟩
theorem Js {T : Nat} {xs sp : List AV} {ex : Bool} (hc : CallOk P g al (.own T xs sp ex) []) (hg : callable P g = true) (hp : AV.pureL al = true) (hr : AV.pureL xs = true) (hs : AV.pureL sp = true) (hW : W g = true)
  (hk : wpos P W ops os (St.put ⟨fr, upd h nx ⟨T, xs ++ sp, ex, true, true⟩, nx + 1⟩ d (.ref nx (xs.length + sp.length) 0 xs.length)) K) : callW P W g al ⟨d, ops, os, fr, h, nx, K⟩ t :=
 Aj (hc.inOkO hp hr hs) hg (.inl hW) hk (.inl hW)
end
attribute [go_sem ↓] S9
attribute [go_sem] List.toList_toArray List.map_cons List.map_nil
def ninL (x : Nat) : List Nat → Prop
 | [] => True
 | y :: ys => x ≠ y ∧ ninL x ys
def sepL : List Nat → List Nat → Prop
 | [], _ => True
 | x :: xs, ys => ninL x ys ∧ sepL xs ys
theorem LB {x : Nat} : ∀ {ys : List Nat}, ninL x ys ↔ x ∉ ys
 | [] => by simp [ninL]
 | y :: ys => by simp [ninL, LB]
theorem LC {ys : List Nat} : ∀ {xs : List Nat}, sepL xs ys ↔ ∀ i ∈ xs, i ∉ ys
 | [] => by simp [sepL]
 | x :: xs => by simp [sepL, LC, LB]
theorem Qq {st : St} {ops : Array Oper} {i j : Nat} : apartAt st ops (i, j) = match ops[i]?, ops[j]? with
  | some a, some b => sepL (idsO st a) (idsO st b)
  | _, _ => True := by
 simp only [apartAt]
 cases ops[i]? <;> try rfl
 cases ops[j]? <;> try rfl
 simp only [LC]
theorem YZ {a b : Nat} (h : a ≠ b) : (a ≠ b) = True := by simp [h]
theorem AH {P : Program} {w : FuncId → Bool} {d : Nat → Option (List (Nat × Nat))} {i : Nat} {ops : Array Oper} {ks : List Fr} {Q : Ex → St → Prop} {st : St} {h0 : Nat → Blk} : KN P ⟨w, d⟩ i ops h0 ks Q st = (dOk P (d i) ops h0 st ∧ runK P ⟨w, d⟩ ks .normal st Q) := (rfl : _ = _).trans rfl
theorem TB {st : St} {d : Option Tmp} {o : Op} {t : Nat} {p : String} {af : Array Edge} {g : Option (Nat × Bool)} : idsO st ⟨d, o, t, p, af, g⟩ = idsK st d (kdOf o) := rfl
theorem LD {st : St} {d : Option Tmp} {o : Op} {t : Nat} {p : String} {af : Array Edge} {g : Option (Nat × Bool)} {os : List Oper} : pureOL st (⟨d, o, t, p, af, g⟩ :: os) = (pureK st (kdOf o) ∧ pureOL st os) := rfl
theorem MK {st : St} : pureOL st [] = True := rfl
theorem Vb (fr : Nat → AV) (h : Nat → Blk) (nx : Nat) : St.ev ⟨fr, h, nx⟩ = evA fr := by funext x; rfl
theorem Ow {P : Program} {h0 : Nat → Blk} {st : St} {ops : Array Oper} {i j : Nat} : lookAt P h0 st ops (i, j) = match ops[i]? with
 | some a => floatK P h0 st a.dst a.op
 | none => True := (rfl : _ = _).trans rfl
theorem ML {P : Program} {h0 : Nat → Blk} {st : St} {ops : Array Oper} {i j : Nat} : lookAtV P h0 st ops (i, j) = match ops[i]? with
 | some a => loadV P h0 st a.dst a.op
 | none => True := (rfl : _ = _).trans rfl
attribute [go_sem] isLv lookLV ML loadV
attribute [go_sem] isLk SP lookL Ow floatK sameL List.tail_cons isRefA isSlA Pp Pq Qq ninL sepL YZ TB idsK idOf kdOf isS LD MK pureK Bq Vb apartL AV.pureL AV.pure Bool.and_self
instance (n : Nat) (q : Rat) : Decidable (fits n q) := by unfold fits; infer_instance
def badA : AV := .sl 0 [.undef] [] false
theorem NL {P : Program} {E : Env} {v : Value} (h : rep P E badA v) : False := by
 simp only [badA, rep] at h
 obtain ⟨a, cap, _, _, _, h, _⟩ := h
 have := h .undef zS
 simp [AV.el, AV.cells, AV.one] at this
def tI (n : Nat) (q : Rat) : AV := if fits n q then natI q.num.natAbs else badA
def dI (n : Nat) (q : Rat) : AV := if fits n q then natI q.den else badA
def tS (n : Nat) (q : Rat) : AV := if fits n q then natS q.num.natAbs else badA
def dS (n : Nat) (q : Rat) : AV := if fits n q then natS q.den else badA
abbrev rI (n : Nat) (q : Rat) : AV := .agg [.bool (decide (q.num < 0)), tI n q, dI n q]
abbrev rS (n : Nat) (q : Rat) : AV := .agg [.bool (decide (q.num < 0)), tS n q, dS n q]
theorem BT {n : Nat} {q : Rat} (h : fits n q) : rI n q = ratI (qd q) := by simp [rI, tI, dI, h, ratI, qd]
theorem CO {n : Nat} {q : Rat} (h : fits n q) : rS n q = ratS (qd q) := by simp [rS, tS, dS, h, ratS, qd]
theorem NM {m n : Nat} {q : Rat} (h : fits m q) (hmn : m ≤ n) : rI n q = rI m q := by rw [BT h, BT (Az h hmn)]
theorem XX {m n : Nat} {q : Rat} (h : fits m q) (hmn : m ≤ n) : rS n q = rS m q := by rw [CO h, CO (Az h hmn)]
@[simp] theorem Ww : badA.pure = true := rfl
@[simp] theorem NN (n : Nat) (q : Rat) : (tI n q).pure = true := by unfold tI; split <;> simp
@[simp] theorem NO (n : Nat) (q : Rat) : (dI n q).pure = true := by unfold dI; split <;> simp
@[simp] theorem NP (n : Nat) (q : Rat) : (tS n q).pure = true := by unfold tS; split <;> simp [BD]
@[simp] theorem NQ (n : Nat) (q : Rat) : (dS n q).pure = true := by unfold dS; split <;> simp [BD]
@[simp] theorem Vc (n : Nat) (q : Rat) : (tI n q).one = true := by unfold tI; split <;> rfl
@[simp] theorem Vd (n : Nat) (q : Rat) : (dI n q).one = true := by unfold dI; split <;> rfl
@[simp] theorem Ve (n : Nat) (q : Rat) : (tS n q).one = true := by unfold tS; split <;> rfl
@[simp] theorem Vf (n : Nat) (q : Rat) : (dS n q).one = true := by unfold dS; split <;> rfl
attribute [go_sem] List.take_succ_cons List.take_zero Nat.reduceAdd Nat.reduceLeDiff
theorem Qr (n : Nat) : (natI n).one = true := rfl
theorem Qs (n : Nat) : (natS n).one = true := rfl
theorem MM (n : Nat) : (natI n).cells = [natI n] := rfl
theorem MN (n : Nat) : (natS n).cells = [natS n] := rfl
theorem Qt {a b c : AV} : AV.el Tryz.prog 76 (.agg [a, b, c]) = (a.one && (b.one && c.one)) := by simp [AV.el, EF, AV.cells]
theorem Qu {a b c : AV} : AV.el Tryz.prog 85 (.agg [a, b, c]) = (a.one && (b.one && c.one)) := by simp [AV.el, CY, AV.cells]
theorem Qv (b : Bool) : (AV.bool b).one = true := rfl
theorem TD (k : IntKind) (n : Int) : (AV.int k n).one = true := rfl
theorem TE (s : List UInt8) : (AV.str s).one = true := rfl
theorem TF : AV.nil.one = true := rfl
theorem Vg (t : Nat) (xs sp : List AV) (ex : Bool) : (AV.sl t xs sp ex).one = true := rfl
theorem TG (id n off len : Nat) : (AV.ref id n off len).one = true := rfl
theorem TH (id n i j : Nat) : (AV.ptr id n i j).one = true := rfl
theorem Qw (t : Nat) (v : AV) (j : Nat) : (AV.cptr t v j).one = true := rfl
attribute [go_sem] Qt Qu Qv TD TE TF Vg TG TH Qw Vc Vd Ve Vf Qr Qs MM MN
theorem TI (g : Bool) (n : Nat) (q : Rat) (st : St) : matA g (tI n q) st = (tI n q, st) := BN _ _ _ (NN n q)
theorem TJ (g : Bool) (n : Nat) (q : Rat) (st : St) : matA g (dI n q) st = (dI n q, st) := BN _ _ _ (NO n q)
theorem TK (g : Bool) (n : Nat) (q : Rat) (st : St) : matA g (tS n q) st = (tS n q, st) := BN _ _ _ (NP n q)
theorem TL (g : Bool) (n : Nat) (q : Rat) (st : St) : matA g (dS n q) st = (dS n q, st) := BN _ _ _ (NQ n q)
attribute [go_sem] TI TJ TK TL
def ratL (n : Nat) (qs : List Rat) : List AV := qs.map (rI n)
def ratM (n : Nat) (qs : List Rat) : List AV := qs.map (rS n)
theorem Ab {n : Nat} {qs : List Rat} : (ratL n qs).length = qs.length := by simp [ratL]
theorem Aq {n : Nat} {qs : List Rat} : (ratM n qs).length = qs.length := by simp [ratM]
theorem TM {n : Nat} {qs : List Rat} {i : Nat} : (ratL n qs)[i]? = (qs[i]?).map (rI n) := by simp [ratL]
theorem TN {n : Nat} {qs : List Rat} {i : Nat} : (ratM n qs)[i]? = (qs[i]?).map (rS n) := by simp [ratM]
@[simp] theorem Cp {n : Nat} {qs : List Rat} : AV.pureL (ratL n qs) = true := by induction qs <;> simp_all [ratL, AV.pureL, AV.pure]
@[simp] theorem E7 {n : Nat} {qs : List Rat} : AV.pureL (ratM n qs) = true := by induction qs <;> simp_all [ratM, AV.pureL, AV.pure]
theorem Ee {n : Nat} : ratL n [] = [] := rfl
theorem XY {n : Nat} : ratM n [] = [] := rfl
theorem GR {n : Nat} {qs : List Rat} {q : Rat} : ratL n qs ++ [rI n q] = ratL n (qs ++ [q]) := by simp [ratL]
theorem GS {n : Nat} {qs : List Rat} {q : Rat} : ratM n qs ++ [rS n q] = ratM n (qs ++ [q]) := by simp [ratM]
theorem Db {n : Nat} {qs : List Rat} {i : Nat} {q : Rat} : (ratL n qs).set i (rI n q) = ratL n (qs.set i q) := by simp [ratL, List.map_set]
theorem Qx {n : Nat} {qs : List Rat} {i : Nat} {q : Rat} : (ratM n qs).set i (rS n q) = ratM n (qs.set i q) := by simp [ratM, List.map_set]
abbrev lI (n : Nat) (qs : List Rat) : AV := .sl 76 (ratL n qs) [] false
abbrev lS (n : Nat) (qs : List Rat) : AV := .sl 85 (ratM n qs) [] false
attribute [go_sem] Ab Aq TM TN Ae It BD NN NO NP NQ Cp E7 AU
def Told (P : Program) (x : AV) (p : Prop) : Prop := ∀ E v, rep P E x v → p
theorem DE {n : Nat} {q : Rat} : Told Tryz.prog (rI n q) (fits n q) := by
 intro E v h
 refine Classical.byContradiction fun hn => ?_
 simp only [rI, tI, hn, if_false, rep, repL] at h
 obtain ⟨vs, _, _, us, _, _, v2, us2, _, h2, _⟩ := h
 exact NL h2
theorem Cx {n : Nat} {q : Rat} : Told Tryz.prog (rS n q) (fits n q) := by
 intro E v h
 refine Classical.byContradiction fun hn => ?_
 simp only [rS, tS, hn, if_false, rep, repL] at h
 obtain ⟨vs, _, _, us, _, _, v2, us2, _, h2, _⟩ := h
 exact NL h2
theorem Ah {P : Program} {f : FuncId} {al : List AV} {r : AV} {outs : List (List AV)} {x : AV} {p : Prop} (ht : Told P x p) (hx : x ∈ al) (hp : x.pure = true) (h : p → CallOk P f al r outs) : CallOk P f al r outs := by
 intro w I vs L h1 h2 h3
 suffices p from h this w I vs L h1 h2 h3
 have : ∀ (al : List AV) (vs : List Value) (L : List OLoc), x ∈ al → ownRL P (bare w I) al vs L → p := by
  intro al
  induction al with
  | nil => intro _ _ h; cases h
  | cons y al ih =>
   intro vs L hx h
   simp only [ownRL] at h
   obtain ⟨v, us, L1, L2, _, _, h3, h4⟩ := h
   rcases List.mem_cons.1 hx with rfl | hx
   ·exact ht _ v (EV _ v L1 hp h3).2
   ·exact ih us L2 hx h4
 exact this al vs L hx h2
theorem CD {v n : Nat} (h : v < 2 ^ n) : (enc B32 v).length ≤ n := Af AJ (Nat.lt_of_lt_of_le h (Nat.pow_le_pow_left zD n))
theorem Cd {v n : Nat} (h : v < 2 ^ n) : (enc B9 v).length ≤ n := Af AR (Nat.lt_of_lt_of_le h (Nat.pow_le_pow_left zD n))
theorem LF {B i x y c e c' A D V : Nat} (hv : A + B ^ i * c = D + V) (h : x + B * c' = e + y + c) : A + B ^ i * x + B ^ (i + 1) * c' = D + B ^ i * e + (V + B ^ i * y) := by
 have := congrArg (B ^ i * ·) h
 simp only [Nat.mul_add, ← Nat.mul_assoc, ← Nat.pow_add_one] at this
 omega
theorem Cy {B : Nat} {xs : List Nat} {i : Nat} : val B (xs.take (i + 1)) = val B (xs.take i) + B ^ i * xs.getD i 0 := by
 by_cases h : i < xs.length
 ·rw [AT (getD_some h)]
 ·rw [B4 h, List.take_of_length_le zO, List.take_of_length_le zO]; simp
theorem Ef {a b : Nat} (ha : (enc B32 a).length ≤ 1099511627776) (hab : b ≤ a) : CW Tryz.prog 117 [natI a, natI b] (natI (a - b)) := by
 refine cw zK zP zP ?_
 (refine AB (W := fun g => g == 105) false AS Tryz.func117 rfl zK zL (AC ?_); generalize hQ : Post Tryz.prog Tryz.f117 _ _ _ _ _ = Q; simp only [stIn, matL, matA, st00, natI])
 have hB : B32 = 4294967296 := rfl
 obtain ⟨n, hn⟩ : ∃ n, (enc B32 a).length = n := ⟨_, rfl⟩
 obtain ⟨l, hl⟩ : ∃ l, (enc B32 b).length = l := ⟨_, rfl⟩
 have hln : l ≤ n := by rw [← hl, ← hn]; exact AX AJ hab
 rw [hn] at ha
 simp (disch := omega) only [go_sem, hn, reach]
 refine AM (fun (⟨i, c, ds⟩ : Nat × Nat × List Nat) st => st.fr 0 = natI a ∧ st.fr 1 = natI b ∧ st.fr 5 = .ref 0 n 0 n ∧ st.fr 13 = .int .i64 n ∧ st.fr 14 = .int .i64 i ∧ st.fr 6 = .int .i64 c ∧ st.h 0 = ⟨132, natA .u32 ds, true, true, true⟩ ∧ 0 < st.nx ∧ (ds.length = n) ∧ (i ≤ n) ∧ (c ≤ 1) ∧ (∀ d ∈ ds, d < B32) ∧ (val B32 ((enc B32 a).take i) + B32 ^ i * c = val B32 (ds.take i) + val B32 ((enc B32 b).take i))) (fun (⟨i, c, ds⟩ : Nat × Nat × List Nat) => n - i) (0, 0, List.replicate n 0)
  ⟨(by simp [AA, natI] <;> omega), (by simp [AA, natI] <;> omega), (by simp [AA, natI] <;> omega), (by simp [AA, natI] <;> omega), (by simp [AA, natI] <;> omega), (by simp [AA, natI] <;> omega), (by simp [AA, natI] <;> omega), (by simp <;> omega), zS, zS, zS, EZ AJ, by simp [val]⟩ ?_
 rintro ⟨i, c, ds⟩ ⟨fr, h, nx⟩ ⟨g0, g1, g5, g13, g14, g6, hm0, hnx, hlen, hi, hc, hq, hv⟩ J hJ
 simp only at g0 g1 g5 g13 g14 g6 hm0 hnx
 simp only [natI] at g0 g1
 have hdl : (natA .u32 ds).length = n := by rw [AF, hlen]
 by_cases hin : i < n
 ·obtain ⟨x, hx⟩ := AI (xs := enc B32 a) (i := i) zO
  have hxB : x < B32 := Ad AJ a x (List.mem_of_getElem? hx)
  obtain ⟨y, hy⟩ : ∃ y, (enc B32 b).getD i 0 = y := ⟨_, rfl⟩
  have hyB : y < B32 := by rw [← hy]; exact Dk AJ (Ad AJ b) i
  have hvx := AT (B := B32) hx
  have hvy := Cy (B := B32) (xs := enc B32 b) (i := i)
  obtain ⟨z, hz⟩ := AI (xs := ds) (i := i) zO
  rw [hy] at hvy
  have key : ∀ (c' e : Nat) (st : St), c' ≤ 1 → e < B32 → x + B32 * c' = e + y + c → st.fr 0 = natI a → st.fr 1 = natI b → st.fr 5 = .ref 0 n 0 n → st.fr 13 = .int .i64 n → st.fr 14 = .int .i64 ((i + 1 : Nat) : Int) → st.fr 6 = .int .i64 c' →
    st.h 0 = ⟨132, natA .u32 (ds.set i e), true, true, true⟩ → 0 < st.nx → J st := by
   intro c' e st h1 h2 h3 k0 k1 k5 k13 k14 k6 kh kn
   refine hJ (i + 1, c', ds.set i e) st ⟨k0, k1, k5, k13, k14, k6, kh, kn, by simp [hlen], hin, h1, CZ hq h2, ?_⟩ zT
   try simp only
   rw [hvx, hvy, Bz zO]
   exact LF hv h3
  clear hJ hv hvx hvy hq
  rw [hB] at hxB hyB
  by_cases hil : i < l
  ·have hyy : (enc B32 b)[i]? = some y := by rw [← hy]; exact getD_some zO
   by_cases hneg : x < c + y
   ·simp (disch := omega) only [go_sem, g0, g1, g5, g13, g14, g6, hm0, hdl, hx, hyy, hz, hl, hn, EI]
    refine key 1 (x + 4294967296 - c - y) _ zO zO zO (by simp [AA, g0, natI] <;> omega) (by simp [AA, g1, natI] <;> omega) (by simp [AA, g5] <;> omega) (by simp [AA, g13] <;> omega) zV zV ?_ (by simp <;> omega)
    have e : ((x : Int) - c - y + 4294967296) = ((x + 4294967296 - c - y : Nat) : Int) := by omega
    simp [AA, e, Du]
   ·simp (disch := omega) only [go_sem, g0, g1, g5, g13, g14, g6, hm0, hdl, hx, hyy, hz, hl, hn]
    refine key 0 (x - c - y) _ zO zO zO (by simp [AA, g0, natI] <;> omega) (by simp [AA, g1, natI] <;> omega) (by simp [AA, g5] <;> omega) (by simp [AA, g13] <;> omega) zV zV ?_ (by simp <;> omega)
    have e : ((x : Int) - c - y) = ((x - c - y : Nat) : Int) := by omega
    simp [AA, e, Du]
  ·obtain rfl : y = 0 := by rw [← hy]; exact B4 zO
   by_cases hneg : x < c
   ·simp (disch := omega) only [go_sem, g0, g1, g5, g13, g14, g6, hm0, hdl, hx, hz, hl, hn, EI]
    refine key 1 (x + 4294967296 - c) _ zO zO zO (by simp [AA, g0, natI] <;> omega) (by simp [AA, g1, natI] <;> omega) (by simp [AA, g5] <;> omega) (by simp [AA, g13] <;> omega) zV zV ?_ (by simp <;> omega)
    have e : ((x : Int) - c + 4294967296) = ((x + 4294967296 - c : Nat) : Int) := by omega
    simp [AA, e, Du]
   ·simp (disch := omega) only [go_sem, g0, g1, g5, g13, g14, g6, hm0, hdl, hx, hz, hl, hn]
    refine key 0 (x - c) _ zO zO zO (by simp [AA, g0, natI] <;> omega) (by simp [AA, g1, natI] <;> omega) (by simp [AA, g5] <;> omega) (by simp [AA, g13] <;> omega) zV zV ?_ (by simp <;> omega)
    have e : ((x : Int) - c) = ((x - c : Nat) : Int) := by omega
    simp [AA, e, Du]
 ·obtain rfl : i = n := by omega
  rw [List.take_of_length_le zO, List.take_of_length_le zO, List.take_of_length_le zO, Aa AJ, Aa AJ] at hv
  have hvl := A9 (B := B32) hq
  rw [hlen] at hvl
  have hval : val B32 ds = a - b := by
   rcases Nat.eq_zero_or_pos c with rfl | hc0
   ·simp at hv; omega
   ·obtain rfl : c = 1 := by omega
    omega
  clear hJ
  simp (disch := omega) only [go_sem, g0, g1, g5, g13, g14, hm0, hdl]
  refine Jq (Ea (ds.take i) zW) Cw (B3 (id := 0) (st := ⟨_, _, _⟩) (by exact hm0) (by simp [hlen]) (Nat.le_refl _)) (by simp [hm0]) zP zP zS ?_
  simp (disch := omega) only [go_sem]
  have e3 : trimZ (ds.take i) = enc B32 (a - b) := by
   rw [List.take_of_length_le (by simp [hlen]), A1 AJ hq, hval]
  rw [e3, ← hQ]
  exact AG (.inl rfl) rfl (by simp only [AA, ↓reduceIte, natI]) zS
attribute [go_sem] Ef
theorem Jt {n : Int} (h0 : 0 ≤ n) (h1 : n < 18446744073709551616) : CW Tryz.prog 79 [.int .u64 n] (natI n.toNat) :=
 cw zK zP zP (by have := EJ n.toNat zO; rwa [Int.toNat_of_nonneg h0] at this)
attribute [go_sem] Jt
theorem Hq {a b : Nat} (ha : (enc B32 a).length ≤ 1099511627776) (hb : (enc B32 b).length ≤ 1099511627776) : CW Tryz.prog 116 [natI a, natI b] (natI (a + b)) := cw zK zP zP (Ji a b ha hb)
attribute [go_sem] Hq
theorem C4 {a b : Nat} (ha : (enc B32 a).length ≤ 1099511627776) (hb : (enc B32 b).length ≤ 1099511627776) : CW Tryz.prog 77 [natI a, natI b] (natI (a * b)) := cw zK zP zP (Kv a b ha hb)
attribute [go_sem] C4
theorem D0 {a b : Nat} (ha : (enc B32 a).length < 9223372036854775808) (hb : (enc B32 b).length < 9223372036854775808) : CW Tryz.prog 78 [natI a, natI b] (.int .i64 (cmpI a b)) := cw zK zP zP (Gj a b ha hb)
attribute [go_sem] D0
theorem Hr {a b : Nat} (ha : (enc B32 a).length ≤ 1099511627775) (hb0 : b ≠ 0) (hb : (enc B32 b).length ≤ 1099511627775) : CW Tryz.prog 133 [natI a, natI b] (.tup [natI (a / b), natI (a % b)]) := cw zK zP zP (Ui a b ha hb0 hb)
attribute [go_sem] Hr
theorem LG {a b : Nat} (ha : (enc B32 a).length ≤ 1099511627775) (hb : (enc B32 b).length ≤ 1099511627775) : CW Tryz.prog 126 [natI a, natI b] (natI (Nat.gcd a b)) := cw zK zP zP (Qa a b ha hb)
attribute [go_sem] LG
theorem LH {xs : List Nat} {i : Nat} (h : xs.length < 9223372036854775808) : CW Tryz.prog 114 [.sl 2 (natA .i64 xs) [] false, .int .i64 i] (.int .i64 (xs.getD i 0 : Nat)) := cw zK zP zP (Jd AS xs i h)
attribute [go_sem] LH
theorem Ox {B i x y c e c' A D V : Nat} (hv : A + V = D + B ^ i * c) (h : e + B * c' = x + y + c) : (A + B ^ i * x) + (V + B ^ i * y) = (D + B ^ i * e) + B ^ (i + 1) * c' := by
 have := congrArg (B ^ i * ·) h
 simp only [Nat.mul_add, ← Nat.mul_assoc, ← Nat.pow_add_one] at this
 omega
theorem LI {B : Nat} {xs : List Nat} {e : Nat} : val B (xs ++ [e]) = val B xs + B ^ xs.length * e := by rw [At]; simp [val]
theorem Vh {B : Nat} (hB : 1 < B) {ds : List Nat} {v : Nat} (hq : ∀ d ∈ ds, d < B) (hv : val B ds = v) (hl : ds.length ≤ (enc B v).length) : ds = enc B v := by
 have h1 := A1 hB hq
 rw [hv] at h1
 have h2 := Is ds
 rw [h1, List.take_of_length_le hl] at h2
 exact h2
attribute [go_sem] LH
theorem I2 {a b : Nat} (ha : (enc B9 a).length ≤ 1099511627776) (hb : (enc B9 b).length ≤ 1099511627776) : CW Tryz.prog 94 [natS a, natS b] (natS (a + b)) := by
 refine cw zK zP zP ?_
 (refine AB (W := fun _ => false) false AS Tryz.func94 rfl zK zL (AC ?_); generalize hQ : Post Tryz.prog Tryz.f94 _ _ _ _ _ = Q; simp only [stIn, matL, matA, st00, natS])
 have hB : B9 = 1000000000 := rfl
 obtain ⟨n, hn⟩ : ∃ n, (enc B9 a).length = n := ⟨_, rfl⟩
 obtain ⟨l, hl⟩ : ∃ l, (enc B9 b).length = l := ⟨_, rfl⟩
 have hna : n ≤ (enc B9 (a + b)).length := by rw [← hn]; exact AX AR zO
 have hlb : l ≤ (enc B9 (a + b)).length := by rw [← hl]; exact AX AR zO
 rw [hn] at ha; rw [hl] at hb
 simp (disch := omega) only [go_sem]
 refine AM (fun (⟨i, c, ds⟩ : Nat × Nat × List Nat) st => st.fr 0 = natS a ∧ st.fr 1 = natS b ∧ st.fr 5 = .ref 0 i 0 i ∧ st.fr 6 = .int .i64 c ∧ st.fr 7 = .int .i64 i ∧ (∃ ex, st.h 0 = ⟨2, natA .i64 ds, ex, true, true⟩) ∧ 0 < st.nx ∧ (ds.length = i) ∧ (i + c ≤ max n l + 1) ∧ (c ≤ 1) ∧ (∀ d ∈ ds, d < B9) ∧ (i ≤ (enc B9 (a + b)).length) ∧ (val B9 ((enc B9 a).take i) + val B9 ((enc B9 b).take i) = val B9 ds + B9 ^ i * c)) (fun (⟨i, c, ds⟩ : Nat × Nat × List Nat) => 2 * (max n l - i) + c) (0, 0, [])
  ⟨(by simp [AA, natS, natA] <;> omega), (by simp [AA, natS, natA] <;> omega), (by simp [AA, natS, natA] <;> omega), (by simp [AA, natS, natA] <;> omega), (by simp [AA, natS, natA] <;> omega), ⟨true, (by simp [AA, natS, natA] <;> omega)⟩, (by simp <;> omega), rfl, zS, zS, zS, zS, by simp [val]⟩ ?_
 rintro ⟨i, c, ds⟩ ⟨fr, h, nx⟩ ⟨g0, g1, g5, g6, g7, ⟨ex0, hm0⟩, hnx, hlen, him, hc, hq, hk, hv⟩ J hJ
 simp only at g0 g1 g5 g6 g7 hm0 hnx
 simp only [natS] at g0 g1
 have hdl : (natA .i64 ds).length = i := by rw [AF, hlen]
 by_cases hgo : i < n ∨ i < l ∨ 0 < c
 ·obtain ⟨x, hx⟩ : ∃ x, (enc B9 a).getD i 0 = x := ⟨_, rfl⟩
  obtain ⟨y, hy⟩ : ∃ y, (enc B9 b).getD i 0 = y := ⟨_, rfl⟩
  have hxB : x < B9 := by rw [← hx]; exact Dk AR (Ad AR a) i
  have hyB : y < B9 := by rw [← hy]; exact Dk AR (Ad AR b) i
  have hx0 : n ≤ i → x = 0 := fun h => by rw [← hx]; exact B4 zO
  have hy0 : l ≤ i → y = 0 := fun h => by rw [← hy]; exact B4 zO
  have hvx := Cy (B := B9) (xs := enc B9 a) (i := i)
  have hvy := Cy (B := B9) (xs := enc B9 b) (i := i)
  rw [hx] at hvx; rw [hy] at hvy
  obtain ⟨s1, s2, s3⟩ := Eb AR hc hxB hyB
  have hk' : i + 1 ≤ (enc B9 (a + b)).length := by
   rcases hgo with h | h | h
   ·omega
   ·omega
   ·by_cases h2 : i < n ∨ i < l
    ·omega
    ·rw [List.take_of_length_le zO, List.take_of_length_le zO, Aa AR, Aa AR] at hv
     obtain rfl : c = 1 := by omega
     exact HV AR zO
  have key : ∀ st : St, st.fr 0 = natS a → st.fr 1 = natS b → st.fr 5 = .ref 0 (i + 1) 0 (i + 1) → st.fr 6 = .int .i64 (((x + y + c) / 1000000000 : Nat) : Int) → st.fr 7 = .int .i64 ((i + 1 : Nat) : Int) →
    (∃ ex, st.h 0 = ⟨2, natA .i64 (ds ++ [(x + y + c) % 1000000000]), ex, true, true⟩) → 0 < st.nx → J st := by
   intro st k0 k1 k5 k6 k7 kh kn
   rw [show c + x + y = x + y + c by omega] at s1 s2 s3
   have hlast : ¬ i < max n l → (x + y + c) / B9 = 0 := fun h => by rw [hx0 zO, hy0 zO, Nat.div_eq_of_lt (by simp only [hB]; omega)]
   refine hJ (i + 1, (x + y + c) / B9, ds ++ [(x + y + c) % B9]) st ⟨k0, k1, k5, k6, k7, kh, kn, by simp [hlen], ?_, s1, ?_, hk', ?_⟩ ?_
   ·have : (x + y + c) / B9 ≤ 1 := s1
    by_cases h2 : i < max n l
    ·omega
    ·rw [hlast h2]; omega
   ·intro d hd
    rcases List.mem_append.1 hd with h | h
    ·exact hq d h
    ·rw [List.mem_singleton.1 h]; exact s2
   ·try simp only
    rw [hvx, hvy, LI, hlen]
    exact Ox hv s3
   ·try simp only
    have : (x + y + c) / B9 ≤ 1 := s1
    by_cases h2 : i < max n l
    ·omega
    ·rw [hlast h2]; omega
  clear hJ hv hvx hvy hq hk hk' s1 s2 s3 hx0 hy0
  rw [hB] at hxB hyB
  have n1 : (0 = nx) = False := by simp; omega
  have n2 : (nx = 0) = False := by simp; omega
  rcases (by omega : i < n ∨ (¬ i < n ∧ i < l) ∨ (¬ i < n ∧ ¬ i < l ∧ 0 < c)) with h1 | h1 | h1
  all_goals
   simp (disch := omega) only [go_sem, g0, g1, g5, g6, g7, hm0, hdl, hx, hy, hl, hn, reach, n1, n2]
   (repeat (with_reducible refine Or.inr ?_))
   exact key _ (by simp [AA, g0, natS] <;> omega) (by simp [AA, g1, natS] <;> omega) zV zV zV ⟨false, by simp [AA, n1, n2, hm0, natA]⟩ (by simp <;> omega)
 ·rw [List.take_of_length_le zO, List.take_of_length_le zO, Aa AR, Aa AR] at hv
  obtain rfl : c = 0 := by omega
  have hde := Vh AR hq (show val B9 ds = a + b by simp at hv; omega) zO
  clear hJ
  simp (disch := omega) only [go_sem, g0, g1, g5, g6, g7, hl, hn]
  rw [← hQ]
  exact Bs (off := 0) (len := i) (n := i) (id := 0) (.inl rfl) rfl zV (by simp [hm0]) (by simp [hm0, AF, hlen]) (by simp [hm0]) zO (Nat.zero_le _) (by simp only [hm0, List.drop_zero, Ay]; rw [List.take_of_length_le zO, hde]) (Ae _ _)
attribute [go_sem] I2
theorem FX {a b : Nat} (ha : (enc B9 a).length ≤ 1099511627776) (hab : b ≤ a) : CW Tryz.prog 95 [natS a, natS b] (natS (a - b)) := by
 refine cw zK zP zP ?_
 (refine AB (W := fun g => g == 110) false AS Tryz.func95 rfl zK zL (AC ?_); generalize hQ : Post Tryz.prog Tryz.f95 _ _ _ _ _ = Q; simp only [stIn, matL, matA, st00, natS])
 have hB : B9 = 1000000000 := rfl
 obtain ⟨n, hn⟩ : ∃ n, (enc B9 a).length = n := ⟨_, rfl⟩
 obtain ⟨l, hl⟩ : ∃ l, (enc B9 b).length = l := ⟨_, rfl⟩
 have hln : l ≤ n := by rw [← hl, ← hn]; exact AX AR hab
 rw [hn] at ha
 simp (disch := omega) only [go_sem, hn]
 refine AM (fun (⟨i, c, ds⟩ : Nat × Nat × List Nat) st => st.fr 0 = natS a ∧ st.fr 1 = natS b ∧ st.fr 5 = .ref 0 i 0 i ∧ st.fr 11 = .int .i64 n ∧ st.fr 12 = .int .i64 i ∧ st.fr 6 = .int .i64 c ∧ (∃ ex, st.h 0 = ⟨2, natA .i64 ds, ex, true, true⟩) ∧ 0 < st.nx ∧ (ds.length = i) ∧ (i ≤ n) ∧ (c ≤ 1) ∧ (∀ d ∈ ds, d < B9) ∧ (val B9 ((enc B9 a).take i) + B9 ^ i * c = val B9 ds + val B9 ((enc B9 b).take i))) (fun (⟨i, c, ds⟩ : Nat × Nat × List Nat) => n - i) (0, 0, [])
  ⟨(by simp [AA, natS, natA] <;> omega), (by simp [AA, natS, natA] <;> omega), (by simp [AA, natS, natA] <;> omega), (by simp [AA, natS, natA] <;> omega), (by simp [AA, natS, natA] <;> omega), (by simp [AA, natS, natA] <;> omega), ⟨true, (by simp [AA, natS, natA] <;> omega)⟩, (by simp <;> omega), rfl, zS, zS, zS, by simp [val]⟩ ?_
 rintro ⟨i, c, ds⟩ ⟨fr, h, nx⟩ ⟨g0, g1, g5, g11, g12, g6, ⟨ex0, hm0⟩, hnx, hlen, hi, hc, hq, hv⟩ J hJ
 simp only at g0 g1 g5 g11 g12 g6 hm0 hnx
 simp only [natS] at g0 g1
 have hdl : (natA .i64 ds).length = i := by rw [AF, hlen]
 have n1 : (0 = nx) = False := by simp; omega
 have n2 : (nx = 0) = False := by simp; omega
 by_cases hin : i < n
 ·obtain ⟨x, hx⟩ := AI (xs := enc B9 a) (i := i) zO
  have hxB : x < B9 := Ad AR a x (List.mem_of_getElem? hx)
  obtain ⟨y, hy⟩ : ∃ y, (enc B9 b).getD i 0 = y := ⟨_, rfl⟩
  have hyB : y < B9 := by rw [← hy]; exact Dk AR (Ad AR b) i
  have hvx := AT (B := B9) hx
  have hvy := Cy (B := B9) (xs := enc B9 b) (i := i)
  rw [hy] at hvy
  have key : ∀ (c' e : Nat) (st : St), c' ≤ 1 → e < B9 → x + B9 * c' = e + y + c → st.fr 0 = natS a → st.fr 1 = natS b → st.fr 5 = .ref 0 (i + 1) 0 (i + 1) → st.fr 11 = .int .i64 n → st.fr 12 = .int .i64 ((i + 1 : Nat) : Int) → st.fr 6 = .int .i64 c' →
    (∃ ex, st.h 0 = ⟨2, natA .i64 (ds ++ [e]), ex, true, true⟩) → 0 < st.nx → J st := by
   intro c' e st h1 h2 h3 k0 k1 k5 k11 k12 k6 kh kn
   refine hJ (i + 1, c', ds ++ [e]) st ⟨k0, k1, k5, k11, k12, k6, kh, kn, by simp [hlen], hin, h1, ?_, ?_⟩ zT
   ·intro d hd
    rcases List.mem_append.1 hd with h | h
    ·exact hq d h
    ·rw [List.mem_singleton.1 h]; exact h2
   ·try simp only
    rw [hvx, hvy, LI, hlen]
    exact LF hv h3
  clear hJ hv hvx hvy hq
  rw [hB] at hxB hyB
  simp only [hB] at key
  by_cases hneg : x < y + c
  ·simp (disch := omega) only [go_sem, g0, g1, g5, g11, g12, g6, hm0, hdl, hx, hy, hl, hn, reach, n1, n2]
   (repeat (with_reducible refine Or.inr ?_))
   have e : ((x : Int) - y - c + 1000000000) = ((x + 1000000000 - y - c : Nat) : Int) := by omega
   exact key 1 (x + 1000000000 - y - c) _ zO zO zO (by simp [AA, g0, natS] <;> omega) (by simp [AA, g1, natS] <;> omega) zV (by simp [AA, g11] <;> omega) zV zV ⟨false, by simp [AA, n1, n2, hm0, natA, e]⟩ (by simp <;> omega)
  ·simp (disch := omega) only [go_sem, g0, g1, g5, g11, g12, g6, hm0, hdl, hx, hy, hl, hn, reach, n1, n2]
   (repeat (with_reducible refine Or.inr ?_))
   have e : ((x : Int) - y - c) = ((x - y - c : Nat) : Int) := by omega
   exact key 0 (x - y - c) _ zO zO zO (by simp [AA, g0, natS] <;> omega) (by simp [AA, g1, natS] <;> omega) zV (by simp [AA, g11] <;> omega) zV zV ⟨false, by simp [AA, n1, n2, hm0, natA, e]⟩ (by simp <;> omega)
 ·obtain rfl : i = n := by omega
  rw [List.take_of_length_le zO, List.take_of_length_le zO, Aa AR, Aa AR] at hv
  have hvl := A9 (B := B9) hq
  rw [hlen] at hvl
  have hval : val B9 ds = a - b := by
   rcases Nat.eq_zero_or_pos c with rfl | hc0
   ·simp at hv; omega
   ·obtain rfl : c = 1 := by omega
    omega
  clear hJ
  simp (disch := omega) only [go_sem, g0, g1, g5, g11, g12, hm0, hdl]
  refine Jq (HX AS (ds.take i) zW) GK (FT (id := 0) (st := ⟨_, _, _⟩) (by exact hm0) (by simp [hlen]) (Nat.le_refl _)) (by simp [hm0]) zP zP zS ?_
  simp (disch := omega) only [go_sem]
  have e3 : trimZ (ds.take i) = enc B9 (a - b) := by
   rw [List.take_of_length_le (by simp [hlen]), A1 AR hq, hval]
  rw [e3, ← hQ]
  exact AG (.inl rfl) rfl (by simp only [AA, ↓reduceIte, natS]) (BD _)
attribute [go_sem] FX
theorem Bo {a b : Nat} (ha : (enc B9 a).length ≤ 1099511627776) (hb : (enc B9 b).length ≤ 1099511627776) : CW Tryz.prog 85 [natS a, natS b] (natS (a * b)) := by
 refine cw zK zP zP ?_
 (refine AB (W := fun g => g == 110) false AS Tryz.func85 rfl zK zL (AC ?_); generalize hQ : Post Tryz.prog Tryz.f85 _ _ _ _ _ = Q; simp only [stIn, matL, matA, st00, natS])
 have hB : B9 = 1000000000 := rfl
 obtain ⟨n, hn⟩ : ∃ n, (enc B9 a).length = n := ⟨_, rfl⟩
 obtain ⟨l, hl⟩ : ∃ l, (enc B9 b).length = l := ⟨_, rfl⟩
 rw [hn] at ha; rw [hl] at hb
 have hblt : b < B9 ^ l := by rw [← hl]; exact Aw AR
 simp (disch := omega) only [go_sem, hn, hl, reach]
 refine AM (fun (⟨i, ds⟩ : Nat × List Nat) st => st.fr 0 = natS a ∧ st.fr 1 = natS b ∧ st.fr 5 = .ref 0 (n + l) 0 (n + l) ∧ st.fr 17 = .int .i64 n ∧ st.fr 18 = .int .i64 i ∧ st.h 0 = ⟨2, natA .i64 ds, true, true, true⟩ ∧ 0 < st.nx ∧ (ds.length = n + l) ∧ (i ≤ n) ∧ (∀ d ∈ ds, d < B9) ∧ (val B9 ds = val B9 ((enc B9 a).take i) * b)) (fun (⟨i, ds⟩ : Nat × List Nat) => n - i) (0, List.replicate (n + l) 0)
  ⟨(by simp [AA, natS] <;> omega), (by simp [AA, natS] <;> omega), (by simp [AA, natS] <;> omega), (by simp [AA, natS] <;> omega), (by simp [AA, natS] <;> omega), (by simp [AA, natS] <;> omega), (by simp <;> omega), zS, zS, EZ AR, by simp [Dt, val]⟩ ?_
 rintro ⟨i, ds⟩ ⟨fr, h, nx⟩ ⟨g0, g1, g5, g17, g18, hm0, hnx, hlen, hi, hq, hv⟩ J hJ
 simp only at g0 g1 g5 g17 g18 hm0 hnx
 simp only [natS] at g0 g1
 have hdl : (natA .i64 ds).length = n + l := by rw [AF, hlen]
 by_cases hin : i < n
 ·obtain ⟨u, hu⟩ := AI (xs := enc B9 a) (i := i) zO
  have huB : u < B9 := Ad AR a u (List.mem_of_getElem? hu)
  have hvu := AT (B := B9) hu
  have hlow : val B9 ds < B9 ^ (i + l) := by
   rw [hv]
   refine Hf ?_ hblt
   have := A9 (B := B9) (xs := (enc B9 a).take i) (fun d hd => Ad AR a d (List.mem_of_mem_take hd))
   rwa [show ((enc B9 a).take i).length = i by simp; omega] at this
  simp (disch := omega) only [go_sem, g0, g1, g5, g17, g18, hm0, hdl, hu, hl]
  refine AM (fun (⟨k, c, es⟩ : Nat × Nat × List Nat) st => st.fr 0 = natS a ∧ st.fr 1 = natS b ∧ st.fr 5 = .ref 0 (n + l) 0 (n + l) ∧ st.fr 17 = .int .i64 n ∧ st.fr 18 = .int .i64 i ∧ st.fr 6 = .int .i64 i ∧ st.fr 7 = .int .i64 c ∧ st.fr 22 = .int .i64 l ∧ st.fr 23 = .int .i64 k ∧ st.h 0 = ⟨2, natA .i64 es, true, true, true⟩ ∧ 0 < st.nx ∧ (es.length = n + l) ∧ (k ≤ l) ∧ (c < B9) ∧ (∀ q ∈ es, q < B9) ∧ (val B9 es + B9 ^ (i + k) * c = val B9 ds + B9 ^ i * u * val B9 ((enc B9 b).take k)) ∧ (es.drop (i + k) = ds.drop (i + k))) (fun (⟨k, c, es⟩ : Nat × Nat × List Nat) => l - k) (0, 0, ds)
   ⟨(by simp [AA, natS, g0, g1, g5, g17, g18, hm0] <;> omega), (by simp [AA, natS, g0, g1, g5, g17, g18, hm0] <;> omega), (by simp [AA, natS, g0, g1, g5, g17, g18, hm0] <;> omega), (by simp [AA, natS, g0, g1, g5, g17, g18, hm0] <;> omega), (by simp [AA, natS, g0, g1, g5, g17, g18, hm0] <;> omega), (by simp [AA, natS, g0, g1, g5, g17, g18, hm0] <;> omega), (by simp [AA, natS, g0, g1, g5, g17, g18, hm0] <;> omega), (by simp [AA, natS, g0, g1, g5, g17, g18, hm0] <;> omega), (by simp [AA, natS, g0, g1, g5, g17, g18, hm0] <;> omega), (by simp [AA, natS, g0, g1, g5, g17, g18, hm0] <;> omega), (by simp <;> omega), hlen, zS, by simp [B9], hq, by simp [val], rfl⟩ ?_
  rintro ⟨k, c, es⟩ ⟨fr, h, nx⟩ ⟨g0, g1, g5, g17, g18, g6, g7, g22, g23, hm0, hnx, hel, hk, hc, hp, hw, hd⟩ J2 hJ2
  simp only at g0 g1 g5 g17 g18 g6 g7 g22 g23 hm0 hnx
  simp only [natS] at g0 g1
  have hdl : (natA .i64 es).length = n + l := by rw [AF, hel]
  by_cases hkl : k < l
  ·obtain ⟨y, hy⟩ := AI (xs := enc B9 b) (i := k) zO
   obtain ⟨o, ho⟩ := AI (xs := es) (i := i + k) zO
   have hyB : y < B9 := Ad AR b y (List.mem_of_getElem? hy)
   have hoB : o < B9 := hp o (List.mem_of_getElem? ho)
   obtain ⟨s1, s2, s3⟩ := Kt hc huB hyB hoB
   have hset := fun v => DC (B := B9) (v := v) ho
   have hvy := AT (B := B9) hy
   have key : ∀ st : St, st.fr 0 = natS a → st.fr 1 = natS b → st.fr 5 = .ref 0 (n + l) 0 (n + l) → st.fr 17 = .int .i64 n → st.fr 18 = .int .i64 i → st.fr 6 = .int .i64 i →
     st.fr 7 = .int .i64 (((o + u * y + c) / 1000000000 : Nat) : Int) → st.fr 22 = .int .i64 l → st.fr 23 = .int .i64 ((k + 1 : Nat) : Int) →
     st.h 0 = ⟨2, natA .i64 (es.set (i + k) ((o + u * y + c) % 1000000000)), true, true, true⟩ → 0 < st.nx → J2 st := by
    intro st k0 k1 k5 k17 k18 k6 k7 k22 k23 kh kn
    rw [show c + (u * y + o) = o + u * y + c by omega] at s1 s2
    refine hJ2 (k + 1, (o + u * y + c) / B9, es.set (i + k) ((o + u * y + c) % B9)) st ⟨k0, k1, k5, k17, k18, k6, k7, k22, k23, kh, kn, by simp [hel], hkl, s1, CZ hp s2, ?_, ?_⟩ zT
    ·have h1 := hset ((o + u * y + c) % B9)
     have h2 : B9 ^ (i + k) * ((o + u * y + c) % B9 + B9 * ((o + u * y + c) / B9)) = B9 ^ (i + k) * (o + u * y + c) := by rw [Nat.mod_add_div]
     have h3 : B9 ^ i * u * (B9 ^ k * y) = B9 ^ (i + k) * (u * y) := by rw [Nat.pow_add, Nat.mul_assoc, Nat.mul_assoc]; congr 1; rw [Nat.mul_left_comm]
     rw [Nat.mul_add, Nat.mul_add, Nat.mul_add, ← Nat.mul_assoc] at h2
     simp only [hvy]
     rw [Nat.mul_add, h3, ← Nat.add_assoc i k 1, Nat.pow_succ]; omega
    ·try simp only
     rw [List.drop_set_of_lt zO]
     have := congrArg (List.drop 1) hd
     rw [List.drop_drop, List.drop_drop] at this
     exact this
   clear hJ hJ2 hw hd hset s1 s2 hvy hv hlow hvu
   rw [hB] at huB hyB hoB hc s3
   obtain ⟨z, hz⟩ : ∃ z, u * y = z := ⟨_, rfl⟩
   have hz3 : z ≤ 999999998000000001 := by
    have : u * y ≤ 999999999 * 999999999 := Nat.mul_le_mul zO zO
    omega
   rw [hz] at key
   simp (disch := omega) only [go_sem, g0, g1, g5, g17, g18, g6, g7, g22, g23, hm0, hdl, hel, hu, hy, ho, hz]
   exact key _ (by simp [AA, g0, natS] <;> omega) (by simp [AA, g1, natS] <;> omega) (by simp [AA, g5] <;> omega) (by simp [AA, g17] <;> omega) (by simp [AA, g18] <;> omega) (by simp [AA, g6] <;> omega) zV (by simp [AA, g22] <;> omega) zV zV (by simp <;> omega)
  ·obtain rfl : k = l := by omega
   have eb : (enc B9 b).take k = enc B9 b := List.take_of_length_le zO
   rw [eb, Aa AR] at hw
   obtain ⟨o, ho⟩ := AI (xs := es) (i := i + k) zO
   have ho' : ds[i + k]? = some o := by
    have := congrArg (·[0]?) hd
    simp only [List.getElem?_drop, Nat.add_zero] at this; rw [← this]; exact ho
   obtain rfl : o = 0 := Jf AR hq ho' hlow
   have hset := DC (B := B9) (v := c) ho
   have key : ∀ st : St, st.fr 0 = natS a → st.fr 1 = natS b → st.fr 5 = .ref 0 (n + k) 0 (n + k) → st.fr 17 = .int .i64 n → st.fr 18 = .int .i64 ((i + 1 : Nat) : Int) →
     st.h 0 = ⟨2, natA .i64 (es.set (i + k) c), true, true, true⟩ → 0 < st.nx → J st := by
    intro st k0 k1 k5 k17 k18 kh kn
    refine hJ (i + 1, es.set (i + k) c) st ⟨k0, k1, k5, k17, k18, kh, kn, by simp [hel], hin, CZ hp hc, ?_⟩ zT
    simp only [Nat.mul_zero, Nat.add_zero] at hset
    try simp only
    rw [hset, hw, hvu, hv, Nat.add_mul]
   clear hJ hJ2 hw hd hset hv hlow hvu
   rw [hB] at hc
   simp (disch := omega) only [go_sem, g0, g1, g5, g17, g18, g6, g7, g22, g23, hm0, hdl, hel, ho, hl]
   exact key _ (by simp [AA, g0, natS] <;> omega) (by simp [AA, g1, natS] <;> omega) (by simp [AA, g5] <;> omega) (by simp [AA, g17] <;> omega) zV zV (by simp <;> omega)
 ·obtain rfl : i = n := by omega
  have ex : (enc B9 a).take i = enc B9 a := List.take_of_length_le zO
  rw [ex, Aa AR] at hv
  clear hJ
  simp (disch := omega) only [go_sem, g0, g1, g5, g17, g18, hm0, hdl]
  refine Jq (HX AS (ds.take (i + l)) zW) GK (FT (id := 0) (st := ⟨_, _, _⟩) (by exact hm0) (by simp [hlen]) (Nat.le_refl _)) (by simp [hm0]) zP zP zS ?_
  simp (disch := omega) only [go_sem]
  have e3 : trimZ (ds.take (i + l)) = enc B9 (a * b) := by
   rw [List.take_of_length_le (by simp [hlen]), A1 AR hq, hv]
  rw [e3, ← hQ]
  exact AG (.inl rfl) rfl (by simp only [AA, ↓reduceIte, natS]) (BD _)
attribute [go_sem] Bo
theorem MO {n : Int} (h0 : 0 ≤ n) (h1 : n < 9223372036854775808) : CW Tryz.prog 111 [.int .i64 n] (natS n.toNat) :=
 cw zK zP zP (by have := NA AS n.toNat zO; rwa [Int.toNat_of_nonneg h0] at this)
attribute [go_sem] MO
theorem MP {a b : Nat} (ha : (enc B9 a).length < 9223372036854775808) (hb : (enc B9 b).length < 9223372036854775808) : CW Tryz.prog 84 [natS a, natS b] (.int .i64 (cmpI a b)) := cw zK zP zP (FJ AS a b ha hb)
attribute [go_sem] MP
theorem MQ {a b : Nat} (ha : (enc B9 a).length ≤ 1099511627775) (hb0 : b ≠ 0) (hb : (enc B9 b).length ≤ 1099511627775) : CW Tryz.prog 113 [natS a, natS b] (.tup [natS (a / b), natS (a % b)]) := cw zK zP zP (Kz a b ha hb0 hb)
attribute [go_sem] MQ
theorem Qy {a b : Nat} (ha : (enc B9 a).length ≤ 1099511627775) (hb : (enc B9 b).length ≤ 1099511627775) : CW Tryz.prog 109 [natS a, natS b] (natS (Nat.gcd a b)) := cw zK zP zP (Qh a b ha hb)
attribute [go_sem] Qy
theorem Dc (a : Rat) : a = mkRat (sg (qd a).1 (qd a).2.1) (qd a).2.2 := by rw [Qn]; exact (Rat.mkRat_self a).symm
theorem Vi (p : Bool) (x e : Nat) : sg p (x * e) = sg p x * e := by cases p <;> simp [sg, Int.neg_mul]
theorem Dl {p : Bool} {x d e : Nat} (he : e ≠ 0) : mkRat (sg p x) d = mkRat (sg p (x * e)) (d * e) := by rw [Vi]; exact (Rat.mkRat_mul_right he).symm
theorem MS {a b : Rat} {p q : Int} {c : Nat} (ha : a = mkRat p c) (hb : b = mkRat q c) : a + b = mkRat (p + q) c := by
 rw [ha, hb, Rat.mkRat_eq_div, Rat.mkRat_eq_div, Rat.mkRat_eq_div, Rat.intCast_add, Rat.div_def, Rat.div_def, Rat.div_def, Rat.add_mul]
theorem TO {p : Bool} {x y : Nat} : sg p x + sg p y = sg p (x + y) := by cases p <;> simp [sg] <;> omega
theorem XZ {p q : Bool} {x y : Nat} (h : p ≠ q) (hxy : y ≤ x) : sg p x + sg q y = sg p (x - y) := by cases p <;> cases q <;> simp_all [sg] <;> omega
theorem Xa {p q : Bool} {x y : Nat} (h : p ≠ q) (hxy : x ≤ y) : sg p x + sg q y = sg q (y - x) := by cases p <;> cases q <;> simp_all [sg] <;> omega
theorem Qz (n : Int) : qd (n : Rat) = (decide (n < 0), n.natAbs, 1) := Prod.ext (decide_eq_decide.2 Iff.rfl) rfl
theorem Eg {n : Int} {k : Nat} (h : n.natAbs < 2 ^ k) (hk : 0 < k) : fits k (n : Rat) := ⟨by simpa using h, by simpa using Nat.one_lt_two_pow zO⟩
theorem Eh {n : Nat} {q : Rat} (h : fits n q) : 0 < n := by
 have := q.den_pos
 rcases Nat.eq_zero_or_pos n with rfl | h0
 ·have := h.2; simp at this; omega
 ·exact h0
theorem Ju (a : Rat) : a.den ≠ 0 := a.den_nz
theorem Jv (a : Rat) : decide (a.num < 0) = decide (a < 0) := decide_eq_decide.2 (by rw [← Int.not_le, Rat.num_nonneg, Rat.not_le])
theorem Bk {a : Rat} : a.num = 0 ↔ a = 0 := Rat.num_eq_zero
theorem AP {P : Program} {fn : Func} {n0 : Nat} {fl : Bool} {t : Tmp} {T id : Nat} {x r : AV} {st : St} {e : Ex} (he : e = .ret ∨ e = .normal) (hr : fn.results.toList = [.cell t T]) (hok : okT P T = true) (hv : st.fr t = .ptr id 1 0 0) (hlv : (st.h id).lv = true) (hx : (st.h id).xs = [x])
  (hl : ldA P T x 0 = some r) (hp : r.pure = true) : Post P fn n0 fl false r [] e st := by
 refine ⟨by rcases he with rfl | rfl <;> trivial, r, by rw [hr]; simp [resV, resL, resA, hv, hok, loadA, hlv, hx, hl], [], ?_, .inl rfl⟩
 simp only [Bool.false_eq_true, if_false]
 exact ⟨AL hp, zS⟩
theorem Xb : natI 0 = .sl 132 [] [] false := by simp [natI, AZ, natA]
theorem Jw {B : Nat} (hB : 1 < B) : enc B 1 = [1] := by rw [CX hB zO, Nat.mod_eq_of_lt hB, Nat.div_eq_of_lt hB, AZ]
theorem TP {B g x : Nat} (hB : 1 < B) (hl : (enc B g).length = 1) (hx : (enc B g)[0]? = some x) : x = g := by
 obtain ⟨y, hy⟩ := List.length_eq_one_iff.1 hl
 have := Aa hB g
 rw [hy] at this hx
 simp [val] at this hx
 omega
theorem Hs : CW Tryz.prog 79 [.int .u64 1] (natI 1) := Jt (n := 1) zO zO
theorem C5 {B m g : Nat} (hB : 1 < B) : (enc B (m / g)).length ≤ (enc B m).length := AX hB (Nat.div_le_self _ _)
theorem NS {m n : Nat} (h : m ≠ n) : cmpI m n ≠ 0 := by
 rcases Nat.lt_or_gt_of_ne h with h | h
 ·rw [BS h]; decide
 ·rw [Bx h]; decide
theorem Jx {m n : Nat} (h : n ≤ m) : 0 ≤ cmpI m n := by
 rcases Nat.eq_or_lt_of_le h with rfl | h
 ·rw [By]; decide
 ·rw [Bx h]; decide
def lowQ (b : Bool) (m n : Nat) : Qd := (b && decide (m ≠ 0), m / Nat.gcd m n, n / Nat.gcd m n)
theorem D4 {b : Bool} {m n : Nat} (h : n ≠ 0) : qd (mkRat (sg b m) n) = lowQ b m n := LA b m n h
theorem Jy {a b : Rat} {p q : Bool} {X Y C : Nat} (hC : C ≠ 0) (ha : a = mkRat (sg p X) C) (hb : b = mkRat (sg q Y) C) :
  (p = q → qd (a + b) = lowQ p (X + Y) C) ∧ (p ≠ q → Y ≤ X → qd (a + b) = lowQ p (X - Y) C) ∧ (p ≠ q → X ≤ Y → qd (a + b) = lowQ q (Y - X) C) := by
 have h := MS ha hb
 refine ⟨fun e => ?_, fun e l => ?_, fun e l => ?_⟩
 ·subst e; rw [h, TO, D4 hC]
 ·rw [h, XZ e l, D4 hC]
 ·rw [h, Xa e l, D4 hC]
theorem Gp {b : Bool} {m n : Nat} (hm : (enc B32 m).length ≤ 1099511627775) (hn : (enc B32 n).length ≤ 1099511627775) (h0 : n ≠ 0) :
  CW Tryz.prog 115 [.bool b, natI m, natI n] (.agg [.bool (b && decide (m ≠ 0)), natI (m / Nat.gcd m n), natI (n / Nat.gcd m n)]) := by
 refine cw zK zP zP ?_
 have h1 := Hs
 simp only [natI] at h1
 by_cases hz : m = 0
 ·subst hz
  refine CallOk.res (r := .agg [.bool false, .nil, natI 1]) ?_ (Fm (SubL.cons (by simpa using Sub.refl _) (SubL.cons (by rw [Nat.zero_div, Xb]; exact G6) (SubL.cons (by rw [Nat.gcd_zero_left, Nat.div_self zO]; exact Sub.refl _) .nil))))
  (refine AB (W := fun _ => false) false AS Tryz.func115 rfl zK zL (AC ?_); generalize hQ : Post Tryz.prog Tryz.f115 _ _ _ _ _ = Q; simp only [stIn, matL, matA, st00, natI])
  simp (disch := omega) only [go_sem, AZ, Da, List.length_nil, h1]
  (repeat (with_reducible refine Or.inr ?_))
  rw [← hQ]
  exact AP (id := 0) (x := .agg [.bool false, .nil, natI 1]) (.inl rfl) rfl BA zV zU (by simp [AA, natI]) Ar zP
 have hml : 0 < (enc B32 m).length := A7 AJ hz
 obtain ⟨g, hg⟩ : ∃ g, Nat.gcd m n = g := ⟨_, rfl⟩
 have hg0 : g ≠ 0 := by rw [← hg]; exact Nat.ne_of_gt (Nat.gcd_pos_of_pos_left _ zO)
 have hgm : (enc B32 g).length ≤ 1099511627775 := Nat.le_trans (AX AJ (by rw [← hg]; exact Nat.le_of_dvd zO (Nat.gcd_dvd_left m n))) hm
 have hgl := A7 AJ hg0
 have h2 := LG (a := m) (b := n) hm hn
 have h3 := Hr (a := m) (b := g) hm hg0 hgm
 have h4 := Hr (a := n) (b := g) hn hg0 hgm
 rw [hg] at h2 ⊢
 simp only [natI] at h2 h3 h4
 obtain ⟨x, hx⟩ := AI (xs := enc B32 g) (i := 0) hgl
 have hx' : (enc B32 g)[Int.toNat 0]? = some x := hx
 rw [show (b && decide (m ≠ 0)) = b by simp [hz]]
 by_cases h1g : g = 1
 ·subst h1g
  rw [Nat.div_one, Nat.div_one]
  rw [Jw AJ] at hx hx' h2
  obtain rfl : x = 1 := by simpa using hx.symm
  (refine AB (W := fun _ => false) false AS Tryz.func115 rfl zK zL (AC ?_); generalize hQ : Post Tryz.prog Tryz.f115 _ _ _ _ _ = Q; simp only [stIn, matL, matA, st00, natI])
  simp (disch := omega) only [go_sem, h2, hx', AF, List.length_cons, List.length_nil]
  (repeat (with_reducible refine Or.inr ?_))
  rw [← hQ]
  exact AP (id := 0) (x := .agg [.bool b, natI m, natI n]) (.inl rfl) rfl BA zV zU (by simp [AA, natI]) Ar zP
 ·by_cases hl1 : (enc B32 g).length = 1
  ·have hxg := TP AJ hl1 hx
   (refine AB (W := fun _ => false) false AS Tryz.func115 rfl zK zL (AC ?_); generalize hQ : Post Tryz.prog Tryz.f115 _ _ _ _ _ = Q; simp only [stIn, matL, matA, st00, natI])
   simp (disch := omega) only [go_sem, h2, h3, h4, hx', hl1]
   (repeat (with_reducible refine Or.inr ?_))
   rw [← hQ]
   exact AP (id := 0) (x := .agg [.bool b, natI (m / g), natI (n / g)]) (.inl rfl) rfl BA zV zU (by simp [AA, natI]) Ar zP
  ·(refine AB (W := fun _ => false) false AS Tryz.func115 rfl zK zL (AC ?_); generalize hQ : Post Tryz.prog Tryz.f115 _ _ _ _ _ = Q; simp only [stIn, matL, matA, st00, natI])
   simp (disch := omega) only [go_sem, h2, h3, h4]
   (repeat (with_reducible refine Or.inr ?_))
   rw [← hQ]
   exact AP (id := 0) (x := .agg [.bool b, natI (m / g), natI (n / g)]) (.inl rfl) rfl BA zV zU (by simp [AA, natI]) Ar zP
attribute [go_sem] Hs
theorem Uj {n : Int} (h0 : -9223372036854775808 ≤ n) (h1 : n < 9223372036854775808) : CW Tryz.prog 80 [.int .i64 n] (.int .u64 n.natAbs) := by
 refine cw zK zP zP ?_
 (refine AB (W := fun _ => false) false AS Tryz.func80 rfl zK zL (AC ?_); generalize hQ : Post Tryz.prog Tryz.f80 _ _ _ _ _ = Q; simp only [stIn, matL, matA, st00])
 by_cases hn : n < 0
 ·have e1 : IntKind.u64.wrap n = n + 18446744073709551616 := by simp only [IntKind.wrap, IntKind.signed, IntKind.bits, Bool.false_and, Bool.false_eq_true, if_false]; omega
  have e2 : IntKind.u64.wrap (0 - (n + 18446744073709551616)) = n.natAbs := by simp only [IntKind.wrap, IntKind.signed, IntKind.bits, Bool.false_and, Bool.false_eq_true, if_false]; omega
  simp (disch := omega) only [go_sem, e1, e2]
  rw [← hQ]
  exact AG (.inl rfl) rfl zV rfl
 ·have e1 : (n.natAbs : Int) = n := by omega
  rw [e1] at hQ
  simp (disch := omega) only [go_sem]
  rw [← hQ]
  exact AG (.inl rfl) rfl zV rfl
attribute [go_sem] Uj
attribute [go_sem] Uj
theorem E8 {n : Int} (h0 : -9223372036854775808 ≤ n) (h1 : n < 9223372036854775808) : CW Tryz.prog 47 [.int .i64 n] (rI 64 (n : Rat)) := by
 refine cw zK zP zP ?_
 rw [BT (Eg zO zO), Qz, ratI]
 have h2 := Hs
 have h3 := Jt (n := n.natAbs) zO zO
 rw [Int.toNat_natCast] at h3
 simp only [natI] at h2 h3
 (refine AB (W := fun _ => false) false AS Tryz.func47 rfl zK zL (AC ?_); generalize hQ : Post Tryz.prog Tryz.f47 _ _ _ _ _ = Q; simp only [stIn, matL, matA, st00])
 by_cases hn : n < 0
 all_goals
  simp (disch := omega) only [go_sem, h2, h3]
  (repeat (with_reducible refine Or.inr ?_))
  rw [← hQ]
  exact AP (id := 0) (x := .agg [.bool (decide (n < 0)), natI n.natAbs, natI 1]) (.inl rfl) rfl BA zV zU (by simp [AA, natI, hn]) Ar zP
attribute [go_sem] E8
theorem Cq {m : Nat} {a : Rat} (h : m ≤ 274877906944) : CW Tryz.prog 76 [rI m a] (.int .i64 a.num.sign) := by
 refine cw zK zP zP ?_
 refine Ah (x := rI m a) DE zS zP fun ha => ?_
 have hl := CD ha.1
 rw [BT ha, ratI, qd]
 rcases Int.lt_trichotomy a.num 0 with hn | hn | hn
 ·rw [Int.sign_eq_neg_one_of_neg hn]
  have hl0 := A7 AJ (show a.num.natAbs ≠ 0 by omega)
  simp only [hn, decide_true]
  (refine AB (W := fun _ => false) false AS Tryz.func76 rfl zK zL (AC ?_); generalize hQ : Post Tryz.prog Tryz.f76 _ _ _ _ _ = Q; simp only [stIn, matL, matA, st00, natI])
  simp (disch := omega) only [go_sem]
  rw [← hQ]
  exact AG (.inl rfl) rfl zV rfl
 ·rw [hn]
  (refine AB (W := fun _ => false) false AS Tryz.func76 rfl zK zL (AC ?_); generalize hQ : Post Tryz.prog Tryz.f76 _ _ _ _ _ = Q; simp only [stIn, matL, matA, st00, natI])
  simp (disch := omega) only [go_sem, Int.natAbs_zero, AZ, Da, List.length_nil]
  rw [← hQ]
  exact AG (.inl rfl) rfl zV rfl
 ·rw [Int.sign_eq_one_of_pos hn]
  have hl0 := A7 AJ (show a.num.natAbs ≠ 0 by omega)
  simp only [show ¬ a.num < 0 by omega, decide_false]
  (refine AB (W := fun _ => false) false AS Tryz.func76 rfl zK zL (AC ?_); generalize hQ : Post Tryz.prog Tryz.f76 _ _ _ _ _ = Q; simp only [stIn, matL, matA, st00, natI])
  simp (disch := omega) only [go_sem]
  rw [← hQ]
  exact AG (.inl rfl) rfl zV rfl
attribute [go_sem] Cq
theorem NT {m : Nat} {a : Rat} (h : m ≤ 274877906944) : CW Tryz.prog 99 [rI m a] (rI m (-a)) := by
 refine cw zK zP zP ?_
 refine Ah (x := rI m a) DE zS zP fun ha => ?_
 have hl := CD ha.1
 rw [BT (Cb ha), Qo, BT ha, ratI, qd, ratI]
 have hx : 0 < (enc B32 a.num.natAbs).length ↔ a.num.natAbs ≠ 0 := ⟨fun h e => by rw [e, AZ] at h; simp at h, fun h => A7 AJ h⟩
 by_cases hn : a.num < 0
 ·simp only [hn, decide_true]
  (refine AB (W := fun _ => false) false AS Tryz.func99 rfl zK zL (AC ?_); generalize hQ : Post Tryz.prog Tryz.f99 _ _ _ _ _ = Q; simp only [stIn, matL, matA, st00, natI])
  simp (disch := omega) only [go_sem]
  rw [← hQ]
  exact AP (id := 1) (x := .agg [.bool false, natI a.num.natAbs, natI a.den]) (.inl rfl) rfl BA zV zU (by simp [AA, natI]) (by simp [ldA, partA, HW, EF, AV.cells]) zP
 ·simp only [hn, decide_false]
  by_cases h0 : a.num.natAbs = 0
  ·rw [show decide (a.num.natAbs ≠ 0) = false by simp [h0]]
   (refine AB (W := fun _ => false) false AS Tryz.func99 rfl zK zL (AC ?_); generalize hQ : Post Tryz.prog Tryz.f99 _ _ _ _ _ = Q; simp only [stIn, matL, matA, st00, natI])
   simp (disch := omega) only [go_sem]
   rw [← hQ]
   exact AP (id := 1) (x := .agg [.bool false, natI a.num.natAbs, natI a.den]) (.inl rfl) rfl BA zV zU (by simp [AA, natI]) (by simp [ldA, partA, HW, EF, AV.cells]) zP
  ·rw [show decide (a.num.natAbs ≠ 0) = true by simp [h0]]
   (refine AB (W := fun _ => false) false AS Tryz.func99 rfl zK zL (AC ?_); generalize hQ : Post Tryz.prog Tryz.f99 _ _ _ _ _ = Q; simp only [stIn, matL, matA, st00, natI])
   simp (disch := omega) only [go_sem]
   rw [← hQ]
   exact AP (id := 1) (x := .agg [.bool true, natI a.num.natAbs, natI a.den]) (.inl rfl) rfl BA zV zU (by simp [AA, natI]) (by simp [ldA, partA, HW, EF, AV.cells]) zP
attribute [go_sem] NT
attribute [go_sem] NT
set_option maxHeartbeats 1000000 in
theorem Uk {m n : Nat} {a b : Rat} (h : m + n ≤ 274877906944) : CW Tryz.prog 100 [rI m a, rI n b] (rI (m + n + 1) (a + b)) := by
 refine cw zK zP zP ?_
 refine Ah (x := rI m a) DE zS zP fun ha => ?_
 refine Ah (x := rI n b) DE zS zP fun hb => ?_
 have hsa := Cq (a := a) (m := m) zO
 have hsb := Cq (a := b) (m := n) zO
 rw [BT ha] at hsa
 rw [BT hb] at hsb
 rw [BT ha, BT hb, BT (Dz ha hb)]
 have lx := CD ha.1
 have ld := CD ha.2
 have ly := CD hb.1
 have le := CD hb.2
 have hd0 := Ju a
 have he0 := Ju b
 have ea := Dc a
 have eb := Dc b
 have hxe : (enc B32 (a.num.natAbs * b.den)).length ≤ m + n := CD (AW ha.1 hb.2)
 have hyd : (enc B32 (b.num.natAbs * a.den)).length ≤ m + n := by rw [Nat.add_comm m n]; exact CD (AW hb.1 ha.2)
 have hde' : (enc B32 (a.den * b.den)).length ≤ m + n := CD (AW ha.2 hb.2)
 have hsum : (enc B32 (a.num.natAbs * b.den + b.num.natAbs * a.den)).length ≤ m + n + 1 := by
  refine CD ?_
  have h1 := AW ha.1 hb.2
  have h2 := AW hb.1 ha.2
  rw [Nat.add_comm n m] at h2
  rw [Nat.pow_succ]; omega
 have hsum' : (enc B32 (a.num.natAbs + b.num.natAbs)).length ≤ m + n + 1 := by
  refine CD ?_
  have h1 := ha.1
  have h2 := hb.1
  have h3 : 2 ^ m ≤ 2 ^ (m + n) := Nat.pow_le_pow_right zO zO
  have h4 : 2 ^ n ≤ 2 ^ (m + n) := Nat.pow_le_pow_right zO zO
  rw [Nat.pow_succ]; omega
 obtain ⟨p, hp⟩ : ∃ p, decide (a.num < 0) = p := ⟨_, rfl⟩
 obtain ⟨q, hq⟩ : ∃ p, decide (b.num < 0) = p := ⟨_, rfl⟩
 have hr1 : qd a = (p, a.num.natAbs, a.den) := by rw [← hp]; rfl
 have hr2 : qd b = (q, b.num.natAbs, b.den) := by rw [← hq]; rfl
 rw [hr1] at hsa ea
 rw [hr2] at hsb eb
 clear hp hq
 by_cases hx0 : a.num = 0
 ·have e : a + b = b := by rw [Bk.1 hx0, Rat.zero_add]
  rw [e, hr1, hr2]
  rw [show a.num.sign = 0 by rw [hx0]; rfl] at hsa
  clear hsb ea eb
  simp only [ratI, natI] at hsa
  (refine AB (W := fun _ => false) false AS Tryz.func100 rfl zK zL (AC ?_); generalize hQ : Post Tryz.prog Tryz.f100 _ _ _ _ _ = Q; simp only [stIn, matL, matA, st00, natI,ratI])
  simp (disch := omega) only [go_sem, hsa]
  (repeat (with_reducible refine Or.inr ?_))
  rw [← hQ]
  exact AP (id := 2) (x := ratI (q, b.num.natAbs, b.den)) (.inl rfl) rfl BA zV zU (by simp [AA, natI, ratI]) Ar zS
 have hsx : a.num.sign ≠ 0 := fun e => hx0 (Int.sign_eq_zero_iff_zero.1 e)
 by_cases hy0 : b.num = 0
 ·have e : a + b = a := by rw [Bk.1 hy0, Rat.add_zero]
  rw [e, hr1, hr2]
  rw [show b.num.sign = 0 by rw [hy0]; rfl] at hsb
  obtain ⟨s, hs⟩ : ∃ s, a.num.sign = s := ⟨_, rfl⟩
  rw [hs] at hsa hsx
  clear ea eb
  simp only [ratI, natI] at hsa hsb
  (refine AB (W := fun _ => false) false AS Tryz.func100 rfl zK zL (AC ?_); generalize hQ : Post Tryz.prog Tryz.f100 _ _ _ _ _ = Q; simp only [stIn, matL, matA, st00, natI,ratI])
  simp (disch := omega) only [go_sem, hsa, hsb]
  (repeat (with_reducible refine Or.inr ?_))
  rw [← hQ]
  exact AP (id := 2) (x := ratI (p, a.num.natAbs, a.den)) (.inl rfl) rfl BA zV zU (by simp [AA, natI, ratI]) Ar zS
 have hsy : b.num.sign ≠ 0 := fun e => hy0 (Int.sign_eq_zero_iff_zero.1 e)
 clear hx0 hy0
 obtain ⟨s, hs⟩ : ∃ s, a.num.sign = s := ⟨_, rfl⟩
 obtain ⟨t, ht⟩ : ∃ s, b.num.sign = s := ⟨_, rfl⟩
 obtain ⟨v, hv⟩ : ∃ v, qd (a + b) = v := ⟨_, rfl⟩
 rw [hv, hr1, hr2]
 rw [hs] at hsa hsx; rw [ht] at hsb hsy
 simp only at ea eb
 clear hs ht hr1 hr2 ha hb
 obtain ⟨x, hx⟩ : ∃ x, a.num.natAbs = x := ⟨_, rfl⟩
 obtain ⟨y, hy⟩ : ∃ x, b.num.natAbs = x := ⟨_, rfl⟩
 obtain ⟨d, hd⟩ : ∃ x, a.den = x := ⟨_, rfl⟩
 obtain ⟨e, he⟩ : ∃ x, b.den = x := ⟨_, rfl⟩
 rw [hx, hd] at hsa ea; rw [hy, he] at hsb eb
 rw [hx] at lx hxe hsum hsum'; rw [hd] at ld hyd hde' hd0 hsum; rw [hy] at ly hyd hsum hsum'; rw [he] at le hxe hde' he0 hsum
 rw [hx, hy, hd, he]
 clear hx hy hd he
 have hne : ∀ {p q : Bool}, p ≠ q → (p == q) = false := by decide
 by_cases hde : d = e
 ·subst hde
  have hcm := D0 (a := d) (b := d) zO zO
  rw [By] at hcm
  obtain ⟨k1, k2, k3⟩ := Jy hd0 ea eb
  rw [hv] at k1 k2 k3
  clear ea eb hv
  by_cases hpq : p = q
  ·subst hpq
   have h1 := Hq (a := x) (b := y) zO zO
   have h2 := Gp (b := p) (m := x + y) (n := d) zO zO hd0
   rw [k1 rfl]
   simp only [natI, ratI] at hsa hsb hcm h1 h2
   (refine AB (W := fun _ => false) false AS Tryz.func100 rfl zK zL (AC ?_); generalize hQ : Post Tryz.prog Tryz.f100 _ _ _ _ _ = Q; simp only [stIn, matL, matA, st00, natI,ratI])
   simp (disch := omega) only [go_sem, hsa, hsb, hcm, h1, h2]
   (repeat (with_reducible refine Or.inr ?_))
   rw [← hQ]
   exact AP (id := 2) (x := ratI (lowQ p (x + y) d)) (.inl rfl) rfl BA zV zU (by simp [AA, natI, ratI, lowQ] <;> (intros; omega)) Ar zS
  ·have hcx := D0 (a := x) (b := y) zO zO
   have e1 := hne hpq
   by_cases hxy : y ≤ x
   ·have h1 := Ef (a := x) (b := y) zO hxy
    have h2 := Gp (b := p) (m := x - y) (n := d) (Nat.le_trans (AX AJ (Nat.sub_le x y)) zO) zO hd0
    have hc0 : 0 ≤ cmpI x y := Jx hxy
    rw [k2 hpq hxy]
    simp only [natI, ratI] at hsa hsb hcm hcx h1 h2
    (refine AB (W := fun _ => false) false AS Tryz.func100 rfl zK zL (AC ?_); generalize hQ : Post Tryz.prog Tryz.f100 _ _ _ _ _ = Q; simp only [stIn, matL, matA, st00, natI,ratI])
    simp (disch := omega) only [go_sem, hsa, hsb, hcm, h1, h2, hcx, e1]
    (repeat (with_reducible refine Or.inr ?_))
    rw [← hQ]
    exact AP (id := 2) (x := ratI (lowQ p (x - y) d)) (.inl rfl) rfl BA zV zU (by simp [AA, natI, ratI, lowQ] <;> (intros; omega)) Ar zS
   ·have h1 := Ef (a := y) (b := x) zO zO
    have h2 := Gp (b := q) (m := y - x) (n := d) (Nat.le_trans (AX AJ (Nat.sub_le y x)) zO) zO hd0
    have hc0 : cmpI x y < 0 := by rw [BS zO]; omega
    rw [k3 hpq zO]
    simp only [natI, ratI] at hsa hsb hcm hcx h1 h2
    (refine AB (W := fun _ => false) false AS Tryz.func100 rfl zK zL (AC ?_); generalize hQ : Post Tryz.prog Tryz.f100 _ _ _ _ _ = Q; simp only [stIn, matL, matA, st00, natI,ratI])
    simp (disch := omega) only [go_sem, hsa, hsb, hcm, h1, h2, hcx, e1]
    (repeat (with_reducible refine Or.inr ?_))
    rw [← hQ]
    exact AP (id := 2) (x := ratI (lowQ q (y - x) d)) (.inl rfl) rfl BA zV zU (by simp [AA, natI, ratI, lowQ] <;> (intros; omega)) Ar zS
 ·have hcm := D0 (a := d) (b := e) zO zO
  have hcm0 : cmpI d e ≠ 0 := NS zO
  have m1 := C4 (a := x) (b := e) zO zO
  have m2 := C4 (a := y) (b := d) zO zO
  have m3 := C4 (a := d) (b := e) zO zO
  have hC0 : d * e ≠ 0 := Nat.mul_ne_zero hd0 he0
  rw [Dl he0] at ea
  rw [Dl hd0, Nat.mul_comm e d] at eb
  obtain ⟨k1, k2, k3⟩ := Jy hC0 ea eb
  rw [hv] at k1 k2 k3
  clear ea eb hv
  obtain ⟨X, hX⟩ : ∃ z, x * e = z := ⟨_, rfl⟩
  obtain ⟨Y, hY⟩ : ∃ z, y * d = z := ⟨_, rfl⟩
  obtain ⟨C, hC⟩ : ∃ z, d * e = z := ⟨_, rfl⟩
  rw [hX] at m1 k1 k2 k3 hxe hsum; rw [hY] at m2 k1 k2 k3 hyd hsum; rw [hC] at m3 k1 k2 k3 hC0 hde'
  by_cases hpq : p = q
  ·subst hpq
   have h1 := Hq (a := X) (b := Y) zO zO
   have h2 := Gp (b := p) (m := X + Y) (n := C) zO zO hC0
   rw [k1 rfl]
   simp only [natI, ratI] at hsa hsb hcm m1 m2 m3 h1 h2
   (refine AB (W := fun _ => false) false AS Tryz.func100 rfl zK zL (AC ?_); generalize hQ : Post Tryz.prog Tryz.f100 _ _ _ _ _ = Q; simp only [stIn, matL, matA, st00, natI,ratI])
   simp (disch := omega) only [go_sem, hsa, hsb, hcm, h1, h2, m1, m2, m3]
   (repeat (with_reducible refine Or.inr ?_))
   rw [← hQ]
   exact AP (id := 2) (x := ratI (lowQ p (X + Y) C)) (.inl rfl) rfl BA zV zU (by simp [AA, natI, ratI, lowQ] <;> (intros; omega)) Ar zS
  ·have hcx := D0 (a := X) (b := Y) zO zO
   have e1 := hne hpq
   by_cases hxy : Y ≤ X
   ·have h1 := Ef (a := X) (b := Y) zO hxy
    have h2 := Gp (b := p) (m := X - Y) (n := C) (Nat.le_trans (AX AJ (Nat.sub_le X Y)) zO) zO hC0
    have hc0 : 0 ≤ cmpI X Y := Jx hxy
    rw [k2 hpq hxy]
    simp only [natI, ratI] at hsa hsb hcm m1 m2 m3 hcx h1 h2
    clear k1 k2 k3 hX hY hC hsum hsum' hxe hyd hde' lx ld ly le hd0 he0 hC0 hde hne
    (refine AB (W := fun _ => false) false AS Tryz.func100 rfl zK zL (AC ?_); generalize hQ : Post Tryz.prog Tryz.f100 _ _ _ _ _ = Q; simp only [stIn, matL, matA, st00, natI,ratI])
    simp (disch := omega) only [go_sem, hsa, hsb, hcm, h1, h2, hcx, e1, m1, m2, m3]
    (repeat (with_reducible refine Or.inr ?_))
    rw [← hQ]
    exact AP (id := 2) (x := ratI (lowQ p (X - Y) C)) (.inl rfl) rfl BA zV zU (by simp [AA, natI, ratI, lowQ] <;> (intros; omega)) Ar zS
   ·have h1 := Ef (a := Y) (b := X) zO zO
    have h2 := Gp (b := q) (m := Y - X) (n := C) (Nat.le_trans (AX AJ (Nat.sub_le Y X)) zO) zO hC0
    have hc0 : cmpI X Y < 0 := by rw [BS zO]; omega
    rw [k3 hpq zO]
    simp only [natI, ratI] at hsa hsb hcm m1 m2 m3 hcx h1 h2
    clear k1 k2 k3 hX hY hC hsum hsum' hxe hyd hde' lx ld ly le hd0 he0 hC0 hde hne
    (refine AB (W := fun _ => false) false AS Tryz.func100 rfl zK zL (AC ?_); generalize hQ : Post Tryz.prog Tryz.f100 _ _ _ _ _ = Q; simp only [stIn, matL, matA, st00, natI,ratI])
    simp (disch := omega) only [go_sem, hsa, hsb, hcm, h1, h2, hcx, e1, m1, m2, m3]
    (repeat (with_reducible refine Or.inr ?_))
    rw [← hQ]
    exact AP (id := 2) (x := ratI (lowQ q (Y - X) C)) (.inl rfl) rfl BA zV zU (by simp [AA, natI, ratI, lowQ] <;> (intros; omega)) Ar zS
attribute [go_sem] Uk
attribute [go_sem] Uk
theorem Xc {m n : Nat} {a b : Rat} (h : m + n ≤ 274877906944) : CW Tryz.prog 67 [rI m a, rI n b] (rI (m + n + 1) (a - b)) := by
 refine cw zK zP zP ?_
 rw [Rat.sub_eq_add_neg]
 (refine AB (W := fun _ => false) false AS Tryz.func67 rfl zK zL (AC ?_); generalize hQ : Post Tryz.prog Tryz.f67 _ _ _ _ _ = Q; simp only [stIn, matL, matA, st00])
 simp (disch := omega) only [go_sem]
 (repeat (with_reducible refine Or.inr ?_))
 rw [← hQ]
 exact AP (id := 2) (x := rI (m + n + 1) (a + -b)) (.inl rfl) rfl BA zV zU zU Ar zP
attribute [go_sem] Xc
theorem NU {p q : Bool} {x y : Nat} : sg p x * sg q y = sg (p != q) (x * y) := by cases p <;> cases q <;> simp [sg, Int.neg_mul, Int.mul_neg, Int.natCast_mul]
theorem Jz {a b : Rat} {p q : Bool} {x y d e : Nat} (ha : qd a = (p, x, d)) (hb : qd b = (q, y, e)) (hd : d ≠ 0) (he : e ≠ 0) : qd (a * b) = lowQ (p != q) (x * y) (d * e) := by
 rw [← D4 (Nat.mul_ne_zero hd he), ← NU, Rat.mul_def']
 have h1 := Qn a
 have h2 := Qn b
 rw [ha] at h1; rw [hb] at h2
 rw [h1, h2, show a.den = d from congrArg (·.2.2) ha, show b.den = e from congrArg (·.2.2) hb]
theorem I3 {a : Rat} {p : Bool} {x d : Nat} (h : qd a = (p, x, d)) : (a.num ≠ 0 ↔ x ≠ 0) ∧ d ≠ 0 := by
 have h1 : a.num.natAbs = x := congrArg (·.2.1) h
 have h2 : a.den = d := congrArg (·.2.2) h
 exact ⟨zO, by rw [← h2]; exact a.den_nz⟩
theorem MT {b : Rat} {q : Bool} {y e : Nat} (hb : qd b = (q, y, e)) (h0 : b.num ≠ 0) : qd b⁻¹ = (q, e, y) := by
 have hy : y ≠ 0 := (I3 hb).1.1 h0
 have he : e ≠ 0 := (I3 hb).2
 have h1 : b.num.natAbs = y := congrArg (·.2.1) hb
 have h2 : b.den = e := congrArg (·.2.2) hb
 have h3 : decide (b.num < 0) = q := congrArg (·.1) hb
 have e1 := Dc b
 rw [hb] at e1
 simp only at e1
 have e2 : b⁻¹ = mkRat (sg q e) y := by
  refine Rat.inv_eq_of_mul_eq_one ?_
  rw [e1, Rat.mkRat_mul_mkRat, NU]
  have : (q != q) = false := by cases q <;> rfl
  rw [this, Nat.mul_comm y e]
  exact Rat.mkRat_self (1 : Rat) ▸ (by
   rw [show sg false (e * y) = (1 : Int) * ((e * y : Nat) : Int) by simp [sg], show e * y = 1 * (e * y) by omega]
   rw [show ((1 * (e * y) : Nat) : Int) = ((e * y : Nat) : Int) by simp]
   rw [Rat.mkRat_mul_right (Nat.mul_ne_zero he hy)]
   rfl)
 have hg : Nat.gcd e y = 1 := by
  have := b.reduced
  rw [Nat.Coprime, h1, h2] at this
  rw [Nat.gcd_comm]; exact this
 rw [e2, D4 hy, lowQ, hg, Nat.div_one, Nat.div_one]
 simp [he]
theorem Q0 {a b : Rat} {p q : Bool} {x y d e : Nat} (ha : qd a = (p, x, d)) (hb : qd b = (q, y, e)) (h0 : b.num ≠ 0) : qd (a / b) = lowQ (p != q) (x * e) (d * y) := by
 rw [Rat.div_def]
 exact Jz ha (MT hb h0) (I3 ha).2 ((I3 hb).1.1 h0)
theorem LJ {m : Nat} {a : Rat} (h : fits m a) (h0 : a.num ≠ 0) : fits m a⁻¹ := by
 have := MT (b := a) rfl h0
 have h1 : a⁻¹.num.natAbs = a.den := congrArg (·.2.1) this
 have h2 : a⁻¹.den = a.num.natAbs := congrArg (·.2.2) this
 exact ⟨by rw [h1]; exact h.2, by rw [h2]; exact h.1⟩
theorem I4 {m n : Nat} {a b : Rat} (h1 : fits m a) (h2 : fits n b) (h0 : b.num ≠ 0) : fits (m + n) (a / b) := by
 rw [Rat.div_def]; exact Ed h1 (LJ h2 h0) (Eh h1)
theorem Oy {p : Bool} {x y d e : Nat} (hx : x ≠ 0) (hy : y ≠ 0) (hd : d ≠ 0) (he : e ≠ 0) (h1 : Nat.gcd x d = 1) (h2 : Nat.gcd y e = 1) :
  lowQ p (x * y) (d * e) = (p, x / Nat.gcd x e * (y / Nat.gcd y d), e / Nat.gcd x e * (d / Nat.gcd y d)) := by
 have k1 : 0 < Nat.gcd x e := Nat.gcd_pos_of_pos_left _ zO
 have k2 : 0 < Nat.gcd y d := Nat.gcd_pos_of_pos_left _ zO
 obtain ⟨g, hg⟩ : ∃ g, Nat.gcd x e = g := ⟨_, rfl⟩
 obtain ⟨k, hk⟩ : ∃ k, Nat.gcd y d = k := ⟨_, rfl⟩
 obtain ⟨x', hx'⟩ : g ∣ x := by rw [← hg]; exact Nat.gcd_dvd_left x e
 obtain ⟨e', he'⟩ : g ∣ e := by rw [← hg]; exact Nat.gcd_dvd_right x e
 obtain ⟨y', hy'⟩ : k ∣ y := by rw [← hk]; exact Nat.gcd_dvd_left y d
 obtain ⟨d', hd'⟩ : k ∣ d := by rw [← hk]; exact Nat.gcd_dvd_right y d
 rw [hg] at k1; rw [hk] at k2
 have q1 : Nat.gcd x' e' = 1 := by
  have : g * Nat.gcd x' e' = g * 1 := by rw [← Nat.gcd_mul_left, ← hx', ← he', hg]; omega
  exact Nat.eq_of_mul_eq_mul_left k1 this
 have q2 : Nat.gcd y' d' = 1 := by
  have : k * Nat.gcd y' d' = k * 1 := by rw [← Nat.gcd_mul_left, ← hy', ← hd', hk]; omega
  exact Nat.eq_of_mul_eq_mul_left k2 this
 have q3 : Nat.gcd x' d' = 1 := Nat.eq_one_of_dvd_one (by rw [← h1, hx', hd']; exact Nat.dvd_trans (Nat.gcd_dvd_gcd_of_dvd_left _ (Nat.dvd_mul_left x' g)) (Nat.gcd_dvd_gcd_of_dvd_right _ (Nat.dvd_mul_left d' k)))
 have q4 : Nat.gcd y' e' = 1 := Nat.eq_one_of_dvd_one (by rw [← h2, hy', he']; exact Nat.dvd_trans (Nat.gcd_dvd_gcd_of_dvd_left _ (Nat.dvd_mul_left y' k)) (Nat.gcd_dvd_gcd_of_dvd_right _ (Nat.dvd_mul_left e' g)))
 have hgk : 0 < g * k := Nat.mul_pos k1 k2
 have e1 : x * y = g * k * (x' * y') := by rw [hx', hy']; simp only [Nat.mul_comm, Nat.mul_left_comm, Nat.mul_assoc]
 have e2 : d * e = g * k * (e' * d') := by rw [hd', he']; simp only [Nat.mul_comm, Nat.mul_left_comm, Nat.mul_assoc]
 have q : Nat.gcd (x' * y') (e' * d') = 1 := by
  have c1 : Nat.Coprime x' (e' * d') := Nat.Coprime.mul_right q1 q3
  have c2 : Nat.Coprime y' (e' * d') := Nat.Coprime.mul_right q4 q2
  exact Nat.Coprime.mul_left c1 c2
 have hxy : x * y ≠ 0 := Nat.mul_ne_zero hx hy
 rw [lowQ, e1, e2, Nat.gcd_mul_left, q, Nat.mul_one, Nat.mul_div_cancel_left _ hgk, Nat.mul_div_cancel_left _ hgk]
 rw [e1] at hxy
 simp only [hxy, ne_eq, not_false_eq_true, decide_true, Bool.and_true]
 rw [hg, hk, hx', he', hy', hd', Nat.mul_div_cancel_left _ k1, Nat.mul_div_cancel_left _ k1, Nat.mul_div_cancel_left _ k2, Nat.mul_div_cancel_left _ k2]
theorem TQ {a b : Rat} {p q : Bool} {x y d e : Nat} (ha : qd a = (p, x, d)) (hb : qd b = (q, y, e)) :
  (p ≠ q → decide (a < b) = p) ∧ (p = q → decide (a < b) = (!p && decide (cmpI (x * e) (y * d) < 0) || p && decide (cmpI (x * e) (y * d) > 0))) ∧ (decide (a = b) = (decide (p = q) && decide (cmpI (x * e) (y * d) = 0))) := by
 have hc := MJ a b
 rw [ha, hb] at hc
 have hn : ∀ m n : Nat, cmpI m n = cmpN m n := fun m n => by simp [cmpI, cmpN]
 have sx : p = true → x ≠ 0 := by
  intro h
  have h1 : decide (a.num < 0) = p := congrArg (·.1) ha
  have h2 : a.num.natAbs = x := congrArg (·.2.1) ha
  rw [h] at h1; simp at h1; omega
 have sy : q = true → y ≠ 0 := by
  intro h
  have h1 : decide (b.num < 0) = q := congrArg (·.1) hb
  have h2 : b.num.natAbs = y := congrArg (·.2.1) hb
  rw [h] at h1; simp at h1; omega
 have hd := (I3 ha).2
 have he := (I3 hb).2
 simp only [cmpQ, sgnQ] at hc
 simp only [hn]
 have mx : x = 0 → x * e = 0 := fun h => by rw [h, Nat.zero_mul]
 have my : y = 0 → y * d = 0 := fun h => by rw [h, Nat.zero_mul]
 have nx : x ≠ 0 → 0 < x * e := fun h => Nat.mul_pos zO zO
 have ny : y ≠ 0 → 0 < y * d := fun h => Nat.mul_pos zO zO
 have hlt : decide (a < b) = decide (cmpQ (p, x, d) (q, y, e) < 0) := decide_eq_decide.2 (by simp only [cmpQ, sgnQ]; exact hc.1.symm)
 have heq : decide (a = b) = decide (cmpQ (p, x, d) (q, y, e) = 0) := decide_eq_decide.2 (by simp only [cmpQ, sgnQ]; exact hc.2.symm)
 rw [hlt, heq]
 simp only [cmpQ, sgnQ, cmpN]
 generalize x * e = X at *
 generalize y * d = Y at *
 clear hc hlt heq hn
 rcases Nat.lt_trichotomy X Y with h | h | h
 ·have h1 : ¬ Y < X := by omega
  simp only [h, h1, if_true, if_false]
  by_cases x0 : x = 0 <;> by_cases y0 : y = 0 <;> cases p <;> cases q <;> simp_all <;> first | omega | exact ⟨rfl, rfl⟩ | rfl
 ·have h1 : ¬ Y < X := by omega
  have h2 : ¬ X < Y := by omega
  simp only [h1, h2, if_false]
  by_cases x0 : x = 0 <;> by_cases y0 : y = 0 <;> cases p <;> cases q <;> simp_all <;> first | omega | exact ⟨rfl, rfl⟩ | rfl
 ·have h1 : ¬ X < Y := by omega
  simp only [h, h1, if_true, if_false]
  by_cases x0 : x = 0 <;> by_cases y0 : y = 0 <;> cases p <;> cases q <;> simp_all <;> first | omega | exact ⟨rfl, rfl⟩ | rfl
theorem Ul : natS 1 = .sl 2 [.int .i64 1] [] false := by simp [natS, Jw AR, natA]
theorem NV {a : Nat} (ha : (enc B9 a).length < 9223372036854775808) : CW Tryz.prog 84 [natS a, .sl 2 [.int .i64 1] [] true] (.int .i64 (cmpI a 1)) :=
 cw zK zP zP ((FJ AS a 1 ha (by rw [Jw AR]; decide)).args (SubL.cons (Sub.refl _) (SubL.cons (by rw [Ul]; exact Cm) .nil)))
attribute [go_sem] NV
theorem E9 {b : Bool} {m n : Nat} (hm : (enc B9 m).length ≤ 1099511627775) (hn : (enc B9 n).length ≤ 1099511627775) (h0 : n ≠ 0) : CW Tryz.prog 93 [.bool b, natS m, natS n] (ratS (lowQ b m n)) := by
 refine cw zK zP zP ?_
 obtain ⟨g, hg⟩ : ∃ g, Nat.gcd m n = g := ⟨_, rfl⟩
 have hg0 : g ≠ 0 := by rw [← hg]; exact Nat.ne_of_gt (Nat.gcd_pos_of_pos_right _ zO)
 have hgn : (enc B9 g).length ≤ 1099511627775 := Nat.le_trans (AX AR (by rw [← hg]; exact Nat.le_of_dvd zO (Nat.gcd_dvd_right m n))) hn
 have h2 := Qy (a := m) (b := n) hm hn
 have h3 := MQ (a := m) (b := g) hm hg0 hgn
 have h4 := MQ (a := n) (b := g) hn hg0 hgn
 have h5 := NV (a := g) zO
 rw [lowQ]
 rw [hg] at h2 ⊢
 simp only [natS] at h2 h3 h4 h5
 have hpos : ∀ k : Nat, (0 < (enc B9 k).length) ↔ k ≠ 0 := fun k => ⟨fun h e => by rw [e, AZ] at h; simp at h, fun h => A7 AR h⟩
 have hfin : ∀ (x : Nat), (x ≠ 0 ↔ m ≠ 0) → (b && decide (m ≠ 0)) = (b && decide (0 < (enc B9 x).length)) := fun x h => by simp [hpos, h]
 by_cases h1g : g = 1
 ·subst h1g
  rw [By] at h5
  rw [Nat.div_one, Nat.div_one, hfin m Iff.rfl]
  cases b
  ·(refine AB (W := fun _ => false) false AS Tryz.func93 rfl zK zL (AC ?_); generalize hQ : Post Tryz.prog Tryz.f93 _ _ _ _ _ = Q; simp only [stIn, matL, matA, st00, natS])
   simp (disch := omega) only [go_sem, h2, h5]
   (repeat (with_reducible refine Or.inr ?_))
   rw [← hQ]
   exact AP (id := 0) (x := .agg [.bool (false && decide (0 < (enc B9 m).length)), natS m, natS n]) (.inl rfl) rfl BU zV zU (by simp [AA, natS]) (by simp [ratS, ldA, partA, DY, CY, AV.cells]) (by simp [AV.pure, AV.pureL, BD])
  ·(refine AB (W := fun _ => false) false AS Tryz.func93 rfl zK zL (AC ?_); generalize hQ : Post Tryz.prog Tryz.f93 _ _ _ _ _ = Q; simp only [stIn, matL, matA, st00, natS])
   simp (disch := omega) only [go_sem, h2, h5]
   (repeat (with_reducible refine Or.inr ?_))
   rw [← hQ]
   exact AP (id := 0) (x := .agg [.bool (true && decide (0 < (enc B9 m).length)), natS m, natS n]) (.inl rfl) rfl BU zV zU (by simp [AA, natS]) (by simp [ratS, ldA, partA, DY, CY, AV.cells]) (by simp [AV.pure, AV.pureL, BD])
 ·have hc0 : cmpI g 1 ≠ 0 := NS zO
  have hm0 : m / g ≠ 0 ↔ m ≠ 0 := by
   constructor
   ·rintro h rfl; simp at h
   ·intro h h'
    have := Nat.div_mul_cancel (by rw [← hg]; exact Nat.gcd_dvd_left m n : g ∣ m)
    rw [h'] at this; omega
  rw [hfin (m / g) hm0]
  have hdl := C5 (B := B9) (m := m) (g := g) AR
  cases b
  ·(refine AB (W := fun _ => false) false AS Tryz.func93 rfl zK zL (AC ?_); generalize hQ : Post Tryz.prog Tryz.f93 _ _ _ _ _ = Q; simp only [stIn, matL, matA, st00, natS])
   simp (disch := omega) only [go_sem, h2, h3, h4, h5]
   (repeat (with_reducible refine Or.inr ?_))
   rw [← hQ]
   exact AP (id := 0) (x := .agg [.bool (false && decide (0 < (enc B9 (m / g)).length)), natS (m / g), natS (n / g)]) (.inl rfl) rfl BU zV zU (by simp [AA, natS]) (by simp [ratS, ldA, partA, DY, CY, AV.cells]) (by simp [AV.pure, AV.pureL, BD])
  ·(refine AB (W := fun _ => false) false AS Tryz.func93 rfl zK zL (AC ?_); generalize hQ : Post Tryz.prog Tryz.f93 _ _ _ _ _ = Q; simp only [stIn, matL, matA, st00, natS])
   simp (disch := omega) only [go_sem, h2, h3, h4, h5]
   (repeat (with_reducible refine Or.inr ?_))
   rw [← hQ]
   exact AP (id := 0) (x := .agg [.bool (true && decide (0 < (enc B9 (m / g)).length)), natS (m / g), natS (n / g)]) (.inl rfl) rfl BU zV zU (by simp [AA, natS]) (by simp [ratS, ldA, partA, DY, CY, AV.cells]) (by simp [AV.pure, AV.pureL, BD])
attribute [go_sem] E9
theorem Q1 {n : Int} (h0 : -9223372036854775807 ≤ n) (h1 : n < 9223372036854775808) : CW Tryz.prog 86 [.int .i64 n] (rS 64 (n : Rat)) := by
 refine cw zK zP zP ?_
 rw [CO (Eg zO zO), Qz, ratS]
 refine CallOk.res (r := .agg [.bool (decide (n < 0)), natS n.natAbs, .sl 2 [.int .i64 1] [] true]) ?_ (Fm (SubL.cons (Sub.refl _) (SubL.cons (Sub.refl _) (SubL.cons (by rw [Ul]; exact Cm) .nil))))
 by_cases hn : n < 0
 ·have h3 := MO (n := 0 - n) zO zO
  rw [show (0 - n).toNat = n.natAbs by omega] at h3
  simp only [natS] at h3
  (refine AB (W := fun _ => false) false AS Tryz.func86 rfl zK zL (AC ?_); generalize hQ : Post Tryz.prog Tryz.f86 _ _ _ _ _ = Q; simp only [stIn, matL, matA, st00])
  simp (disch := omega) only [go_sem, h3]
  (repeat (with_reducible refine Or.inr ?_))
  rw [← hQ]
  exact AP (id := 0) (x := .agg [.bool (decide (n < 0)), natS n.natAbs, .sl 2 [.int .i64 1] [] true]) (.inl rfl) rfl BU zV zU (by simp [AA, natS, hn]) (by simp [ldA, partA, DY, CY, AV.cells]) (by simp [AV.pure, AV.pureL, BD])
 ·have h3 := MO (n := n) zO zO
  rw [show n.toNat = n.natAbs by omega] at h3
  simp only [natS] at h3
  (refine AB (W := fun _ => false) false AS Tryz.func86 rfl zK zL (AC ?_); generalize hQ : Post Tryz.prog Tryz.f86 _ _ _ _ _ = Q; simp only [stIn, matL, matA, st00])
  simp (disch := omega) only [go_sem, h3]
  (repeat (with_reducible refine Or.inr ?_))
  rw [← hQ]
  exact AP (id := 0) (x := .agg [.bool (decide (n < 0)), natS n.natAbs, .sl 2 [.int .i64 1] [] true]) (.inl rfl) rfl BU zV zU (by simp [AA, natS, hn]) (by simp [ldA, partA, DY, CY, AV.cells]) (by simp [AV.pure, AV.pureL, BD])
attribute [go_sem] Q1
theorem MU : ((1 : Int) : Rat) = 1 := rfl
theorem MV : ((0 : Int) : Rat) = 0 := rfl
attribute [go_sem] Q1
theorem Q2 : CW Tryz.prog 53 [] (rS 64 1) := by
 refine cw zK zP zP ?_
 (refine AB (W := fun _ => false) false AS Tryz.func53 rfl zK zL (AC ?_); generalize hQ : Post Tryz.prog Tryz.f53 _ _ _ _ _ = Q; simp only [stIn, matL, matA, st00])
 simp (disch := omega) only [go_sem]
 (repeat (with_reducible refine Or.inr ?_))
 rw [← hQ]
 exact AP (id := 0) (x := rS 64 1) (.inl rfl) rfl BU zV zU zU B5 zP
attribute [go_sem] Q2
theorem NW : CW Tryz.prog 87 [] (rS 64 0) := by
 refine cw zK zP zP ?_
 (refine AB (W := fun _ => false) false AS Tryz.func87 rfl zK zL (AC ?_); generalize hQ : Post Tryz.prog Tryz.f87 _ _ _ _ _ = Q; simp only [stIn, matL, matA, st00])
 simp (disch := omega) only [go_sem]
 (repeat (with_reducible refine Or.inr ?_))
 rw [← hQ]
 exact AP (id := 0) (x := rS 64 0) (.inl rfl) rfl BU zV zU zU B5 zP
attribute [go_sem] NW
theorem FA {m : Nat} {a : Rat} (h : m ≤ 274877906944) : CW Tryz.prog 82 [rS m a] (.bool (decide (a = 0))) := by
 refine cw zK zP zP ?_
 refine Ah (x := rS m a) Cx zS zP fun ha => ?_
 have hl := Cd ha.1
 rw [CO ha, ratS, qd]
 by_cases h0 : a.num = 0
 ·rw [show decide (a = 0) = true by simpa using Bk.1 h0, h0]
  (refine AB (W := fun _ => false) false AS Tryz.func82 rfl zK zL (AC ?_); generalize hQ : Post Tryz.prog Tryz.f82 _ _ _ _ _ = Q; simp only [stIn, matL, matA, st00, natS])
  simp (disch := omega) only [go_sem, Int.natAbs_zero, AZ, Da, List.length_nil]
  rw [← hQ]
  exact AG (.inl rfl) rfl zV rfl
 ·rw [show decide (a = 0) = false by simpa using fun e => h0 (Bk.2 e)]
  have hl0 := A7 AR (show a.num.natAbs ≠ 0 by omega)
  (refine AB (W := fun _ => false) false AS Tryz.func82 rfl zK zL (AC ?_); generalize hQ : Post Tryz.prog Tryz.f82 _ _ _ _ _ = Q; simp only [stIn, matL, matA, st00, natS])
  simp (disch := omega) only [go_sem]
  rw [← hQ]
  exact AG (.inl rfl) rfl zV rfl
attribute [go_sem] FA
theorem MW {m : Nat} {a : Rat} (h : m ≤ 274877906944) : CW Tryz.prog 83 [rS m a] (.bool (decide (a < 0))) := by
 refine cw zK zP zP ?_
 rw [← Jv]
 (refine AB (W := fun _ => false) false AS Tryz.func83 rfl zK zL (AC ?_); generalize hQ : Post Tryz.prog Tryz.f83 _ _ _ _ _ = Q; simp only [stIn, matL, matA, st00])
 simp (disch := omega) only [go_sem]
 rw [← hQ]
 exact AG (.inl rfl) rfl zV rfl
attribute [go_sem] MW
theorem Gq {m : Nat} {a : Rat} (h : m ≤ 274877906944) : CW Tryz.prog 57 [rS m a] (rS m (-a)) := by
 refine cw zK zP zP ?_
 refine Ah (x := rS m a) Cx zS zP fun ha => ?_
 have hl := Cd ha.1
 rw [CO (Cb ha), Qo, CO ha, ratS, qd, ratS]
 have hx : 0 < (enc B9 a.num.natAbs).length ↔ a.num.natAbs ≠ 0 := ⟨fun h e => by rw [e, AZ] at h; simp at h, fun h => A7 AR h⟩
 by_cases hn : a.num < 0
 ·simp only [hn, decide_true]
  (refine AB (W := fun _ => false) false AS Tryz.func57 rfl zK zL (AC ?_); generalize hQ : Post Tryz.prog Tryz.f57 _ _ _ _ _ = Q; simp only [stIn, matL, matA, st00, natS])
  simp (disch := omega) only [go_sem]
  rw [← hQ]
  exact AP (id := 1) (x := .agg [.bool false, natS a.num.natAbs, natS a.den]) (.inl rfl) rfl BU zV zU (by simp [AA, natS]) (by simp [ldA, partA, DY, CY, AV.cells]) (by simp [AV.pure, AV.pureL, BD])
 ·simp only [hn, decide_false]
  by_cases h0 : a.num.natAbs = 0
  ·rw [show decide (a.num.natAbs ≠ 0) = false by simp [h0]]
   (refine AB (W := fun _ => false) false AS Tryz.func57 rfl zK zL (AC ?_); generalize hQ : Post Tryz.prog Tryz.f57 _ _ _ _ _ = Q; simp only [stIn, matL, matA, st00, natS])
   simp (disch := omega) only [go_sem]
   rw [← hQ]
   exact AP (id := 1) (x := .agg [.bool false, natS a.num.natAbs, natS a.den]) (.inl rfl) rfl BU zV zU (by simp [AA, natS]) (by simp [ldA, partA, DY, CY, AV.cells]) (by simp [AV.pure, AV.pureL, BD])
  ·rw [show decide (a.num.natAbs ≠ 0) = true by simp [h0]]
   (refine AB (W := fun _ => false) false AS Tryz.func57 rfl zK zL (AC ?_); generalize hQ : Post Tryz.prog Tryz.f57 _ _ _ _ _ = Q; simp only [stIn, matL, matA, st00, natS])
   simp (disch := omega) only [go_sem]
   rw [← hQ]
   exact AP (id := 1) (x := .agg [.bool true, natS a.num.natAbs, natS a.den]) (.inl rfl) rfl BU zV zU (by simp [AA, natS]) (by simp [ldA, partA, DY, CY, AV.cells]) (by simp [AV.pure, AV.pureL, BD])
attribute [go_sem] Q2 NW FA MW Gq
attribute [go_sem] Gq
set_option maxHeartbeats 1000000 in
theorem Q3 {m n : Nat} {a b : Rat} (h : m + n ≤ 274877906944) : CW Tryz.prog 58 [rS m a, rS n b] (rS (m + n + 1) (a + b)) := by
 refine cw zK zP zP ?_
 refine Ah (x := rS m a) Cx zS zP fun ha => ?_
 refine Ah (x := rS n b) Cx zS zP fun hb => ?_
 rw [CO ha, CO hb, CO (Dz ha hb)]
 have lx := Cd ha.1
 have ld := Cd ha.2
 have ly := Cd hb.1
 have le := Cd hb.2
 have hd0 := Ju a
 have he0 := Ju b
 have ea := Dc a
 have eb := Dc b
 have hxe : (enc B9 (a.num.natAbs * b.den)).length ≤ m + n := Cd (AW ha.1 hb.2)
 have hyd : (enc B9 (b.num.natAbs * a.den)).length ≤ m + n := by rw [Nat.add_comm m n]; exact Cd (AW hb.1 ha.2)
 have hde' : (enc B9 (a.den * b.den)).length ≤ m + n := Cd (AW ha.2 hb.2)
 have hsum : (enc B9 (a.num.natAbs * b.den + b.num.natAbs * a.den)).length ≤ m + n + 1 := by
  refine Cd ?_
  have h1 := AW ha.1 hb.2
  have h2 := AW hb.1 ha.2
  rw [Nat.add_comm n m] at h2
  rw [Nat.pow_succ]; omega
 simp only [qd] at ea eb
 obtain ⟨p, hp⟩ : ∃ p, decide (a.num < 0) = p := ⟨_, rfl⟩
 obtain ⟨q, hq⟩ : ∃ p, decide (b.num < 0) = p := ⟨_, rfl⟩
 obtain ⟨v, hv⟩ : ∃ v, qd (a + b) = v := ⟨_, rfl⟩
 have hr : qd a = (p, a.num.natAbs, a.den) ∧ qd b = (q, b.num.natAbs, b.den) := ⟨by rw [← hp]; rfl, by rw [← hq]; rfl⟩
 rw [hv, hr.1, hr.2]
 rw [hp] at ea; rw [hq] at eb
 clear hp hq hr ha hb
 obtain ⟨x, hx⟩ : ∃ x, a.num.natAbs = x := ⟨_, rfl⟩
 obtain ⟨y, hy⟩ : ∃ x, b.num.natAbs = x := ⟨_, rfl⟩
 obtain ⟨d, hd⟩ : ∃ x, a.den = x := ⟨_, rfl⟩
 obtain ⟨e, he⟩ : ∃ x, b.den = x := ⟨_, rfl⟩
 rw [hx, hd] at ea; rw [hy, he] at eb
 rw [hx] at lx hxe hsum; rw [hd] at ld hyd hde' hd0 hsum; rw [hy] at ly hyd hsum; rw [he] at le hxe hde' he0 hsum
 rw [hx, hy, hd, he]
 clear hx hy hd he
 have hne : ∀ {p q : Bool}, p ≠ q → (p == q) = false := by decide
 have m1 := Bo (a := x) (b := e) zO zO
 have m2 := Bo (a := y) (b := d) zO zO
 have m3 := Bo (a := d) (b := e) zO zO
 have hC0 : d * e ≠ 0 := Nat.mul_ne_zero hd0 he0
 rw [Dl he0] at ea
 rw [Dl hd0, Nat.mul_comm e d] at eb
 obtain ⟨k1, k2, k3⟩ := Jy hC0 ea eb
 rw [hv] at k1 k2 k3
 clear ea eb hv
 obtain ⟨X, hX⟩ : ∃ z, x * e = z := ⟨_, rfl⟩
 obtain ⟨Y, hY⟩ : ∃ z, y * d = z := ⟨_, rfl⟩
 obtain ⟨C, hC⟩ : ∃ z, d * e = z := ⟨_, rfl⟩
 rw [hX] at m1 k1 k2 k3 hxe hsum; rw [hY] at m2 k1 k2 k3 hyd hsum; rw [hC] at m3 k1 k2 k3 hC0 hde'
 by_cases hpq : p = q
 ·subst hpq
  have h1 := I2 (a := X) (b := Y) zO zO
  have h2 := E9 (b := p) (m := X + Y) (n := C) zO zO hC0
  rw [k1 rfl]
  simp only [natS, ratS] at m1 m2 m3 h1 h2
  (refine AB (W := fun _ => false) false AS Tryz.func58 rfl zK zL (AC ?_); generalize hQ : Post Tryz.prog Tryz.f58 _ _ _ _ _ = Q; simp only [stIn, matL, matA, st00, natS,ratS])
  simp (disch := omega) only [go_sem, h1, h2, m1, m2, m3]
  (repeat (with_reducible refine Or.inr ?_))
  rw [← hQ]
  exact AP (id := 2) (x := ratS (lowQ p (X + Y) C)) (.inl rfl) rfl BU zV zU (by simp [AA, natS, ratS]) B5 zS
 ·have hcx := MP (a := X) (b := Y) zO zO
  have e1 := hne hpq
  by_cases hxy : Y ≤ X
  ·have h1 := FX (a := X) (b := Y) zO hxy
   have h2 := E9 (b := p) (m := X - Y) (n := C) (Nat.le_trans (AX AR (Nat.sub_le X Y)) zO) zO hC0
   have hc0 : 0 ≤ cmpI X Y := Jx hxy
   rw [k2 hpq hxy]
   simp only [natS, ratS] at m1 m2 m3 hcx h1 h2
   (refine AB (W := fun _ => false) false AS Tryz.func58 rfl zK zL (AC ?_); generalize hQ : Post Tryz.prog Tryz.f58 _ _ _ _ _ = Q; simp only [stIn, matL, matA, st00, natS,ratS])
   simp (disch := omega) only [go_sem, h1, h2, hcx, e1, m1, m2, m3]
   (repeat (with_reducible refine Or.inr ?_))
   rw [← hQ]
   exact AP (id := 2) (x := ratS (lowQ p (X - Y) C)) (.inl rfl) rfl BU zV zU (by simp [AA, natS, ratS]) B5 zS
  ·have h1 := FX (a := Y) (b := X) zO zO
   have h2 := E9 (b := q) (m := Y - X) (n := C) (Nat.le_trans (AX AR (Nat.sub_le Y X)) zO) zO hC0
   have hc0 : cmpI X Y < 0 := by rw [BS zO]; omega
   rw [k3 hpq zO]
   simp only [natS, ratS] at m1 m2 m3 hcx h1 h2
   (refine AB (W := fun _ => false) false AS Tryz.func58 rfl zK zL (AC ?_); generalize hQ : Post Tryz.prog Tryz.f58 _ _ _ _ _ = Q; simp only [stIn, matL, matA, st00, natS,ratS])
   simp (disch := omega) only [go_sem, h1, h2, hcx, e1, m1, m2, m3]
   (repeat (with_reducible refine Or.inr ?_))
   rw [← hQ]
   exact AP (id := 2) (x := ratS (lowQ q (Y - X) C)) (.inl rfl) rfl BU zV zU (by simp [AA, natS, ratS]) B5 zS
attribute [go_sem] Q3
attribute [go_sem] Q3
theorem Q4 {m n : Nat} {a b : Rat} (h : m + n ≤ 274877906944) : CW Tryz.prog 65 [rS m a, rS n b] (rS (m + n + 1) (a - b)) := by
 refine cw zK zP zP ?_
 rw [Rat.sub_eq_add_neg]
 (refine AB (W := fun _ => false) false AS Tryz.func65 rfl zK zL (AC ?_); generalize hQ : Post Tryz.prog Tryz.f65 _ _ _ _ _ = Q; simp only [stIn, matL, matA, st00])
 simp (disch := omega) only [go_sem]
 (repeat (with_reducible refine Or.inr ?_))
 rw [← hQ]
 exact AP (id := 2) (x := rS (m + n + 1) (a + -b)) (.inl rfl) rfl BU zV zU zU B5 zP
theorem CE {a : Rat} {m : Nat} (ha : fits m a) : ∃ p x d, qd a = (p, x, d) ∧ d ≠ 0 ∧ (a.num ≠ 0 ↔ x ≠ 0) ∧ x < 2 ^ m ∧ d < 2 ^ m ∧ Nat.gcd x d = 1 :=
 ⟨_, _, _, rfl, a.den_nz, by first | omega | (simp only; omega), ha.1, ha.2, a.reduced⟩
attribute [go_sem] Q4
theorem Q5 {m n : Nat} {a b : Rat} (h : m + n ≤ 274877906944) : CW Tryz.prog 97 [rS m a, rS n b] (rS (m + n) (a * b)) := by
 refine cw zK zP zP ?_
 refine Ah (x := rS m a) Cx zS zP fun ha => ?_
 refine Ah (x := rS n b) Cx zS zP fun hb => ?_
 rw [CO ha, CO hb, CO (Ed ha hb (Eh ha))]
 obtain ⟨p, x, d, ea, hd0, _, hx, hd, _⟩ := CE ha
 obtain ⟨q, y, e, eb, he0, _, hy, he, _⟩ := CE hb
 rw [Jz ea eb hd0 he0, ea, eb]
 have m1 := Bo (a := x) (b := y) (by have := Cd hx; omega) (by have := Cd hy; omega)
 have m2 := Bo (a := d) (b := e) (by have := Cd hd; omega) (by have := Cd he; omega)
 have h2 := E9 (b := p != q) (m := x * y) (n := d * e) (Nat.le_trans (Cd (AW hx hy)) zO) (Nat.le_trans (Cd (AW hd he)) zO) (Nat.mul_ne_zero hd0 he0)
 rw [bne] at h2 ⊢
 simp only [natS, ratS] at m1 m2 h2
 (refine AB (W := fun _ => false) false AS Tryz.func97 rfl zK zL (AC ?_); generalize hQ : Post Tryz.prog Tryz.f97 _ _ _ _ _ = Q; simp only [stIn, matL, matA, st00, natS,ratS])
 simp (disch := omega) only [go_sem, h2, m1, m2]
 (repeat (with_reducible refine Or.inr ?_))
 rw [← hQ]
 exact AP (id := 2) (x := ratS (lowQ (!(p == q)) (x * y) (d * e))) (.inl rfl) rfl BU zV zU (by simp [AA, natS, ratS]) B5 zS
attribute [go_sem] Q5
theorem HA {m n : Nat} {a b : Rat} (h : m + n ≤ 274877906944) (h0 : b.num ≠ 0) : CW Tryz.prog 63 [rS m a, rS n b] (rS (m + n) (a / b)) := by
 refine cw zK zP zP ?_
 refine Ah (x := rS m a) Cx zS zP fun ha => ?_
 refine Ah (x := rS n b) Cx zS zP fun hb => ?_
 rw [CO ha, CO hb, CO (I4 ha hb h0)]
 obtain ⟨p, x, d, ea, hd0, _, hx, hd, _⟩ := CE ha
 obtain ⟨q, y, e, eb, he0, hy0, hy, he, _⟩ := CE hb
 have hy0 := hy0.1 h0
 rw [Q0 ea eb h0, ea, eb]
 have m1 := Bo (a := x) (b := e) (by have := Cd hx; omega) (by have := Cd he; omega)
 have m2 := Bo (a := d) (b := y) (by have := Cd hd; omega) (by have := Cd hy; omega)
 have h2 := E9 (b := p != q) (m := x * e) (n := d * y) (Nat.le_trans (Cd (AW hx he)) zO) (Nat.le_trans (Cd (AW hd hy)) zO) (Nat.mul_ne_zero hd0 hy0)
 rw [bne] at h2 ⊢
 simp only [natS, ratS] at m1 m2 h2
 (refine AB (W := fun _ => false) false AS Tryz.func63 rfl zK zL (AC ?_); generalize hQ : Post Tryz.prog Tryz.f63 _ _ _ _ _ = Q; simp only [stIn, matL, matA, st00, natS,ratS])
 simp (disch := omega) only [go_sem, h2, m1, m2]
 (repeat (with_reducible refine Or.inr ?_))
 rw [← hQ]
 exact AP (id := 2) (x := ratS (lowQ (!(p == q)) (x * e) (d * y))) (.inl rfl) rfl BU zV zU (by simp [AA, natS, ratS]) B5 zS
attribute [go_sem] HA
theorem J0 {m n : Nat} {a b : Rat} (h : m + n ≤ 274877906944) : CW Tryz.prog 52 [rS m a, rS n b] (.bool (decide (a < b))) := by
 refine cw zK zP zP ?_
 refine Ah (x := rS m a) Cx zS zP fun ha => ?_
 refine Ah (x := rS n b) Cx zS zP fun hb => ?_
 rw [CO ha, CO hb]
 obtain ⟨p, x, d, ea, hd0, _, hx, hd, _⟩ := CE ha
 obtain ⟨q, y, e, eb, he0, _, hy, he, _⟩ := CE hb
 obtain ⟨k1, k2, _⟩ := TQ ea eb
 rw [ea, eb]
 have m1 := Bo (a := x) (b := e) (by have := Cd hx; omega) (by have := Cd he; omega)
 have m2 := Bo (a := y) (b := d) (by have := Cd hy; omega) (by have := Cd hd; omega)
 have hc := MP (a := x * e) (b := y * d) (Nat.lt_of_le_of_lt (Cd (AW hx he)) zO) (Nat.lt_of_le_of_lt (Cd (AW hy hd)) zO)
 simp only [natS] at m1 m2 hc
 by_cases hpq : p = q
 ·subst hpq
  rw [k2 rfl]
  obtain ⟨c, hcc⟩ : ∃ c, cmpI (x * e) (y * d) = c := ⟨_, rfl⟩
  rw [hcc] at hc ⊢
  clear k1 k2
  rcases Int.lt_trichotomy c 0 with h0 | h0 | h0 <;> cases p
  all_goals
   (refine AB (W := fun _ => false) false AS Tryz.func52 rfl zK zL (AC ?_); generalize hQ : Post Tryz.prog Tryz.f52 _ _ _ _ _ = Q; simp only [stIn, matL, matA, st00, natS,ratS])
   simp (disch := omega) only [go_sem, m1, m2, hc]
   (repeat (with_reducible refine Or.inr ?_))
   rw [← hQ]
   exact AG (.inl rfl) rfl zV rfl
 ·rw [k1 hpq]
  have e1 : (p != q) = true := by cases p <;> cases q <;> simp_all
  have e2 : (p == q) = false := by cases p <;> cases q <;> simp_all
  (refine AB (W := fun _ => false) false AS Tryz.func52 rfl zK zL (AC ?_); generalize hQ : Post Tryz.prog Tryz.f52 _ _ _ _ _ = Q; simp only [stIn, matL, matA, st00, natS,ratS])
  simp (disch := omega) only [go_sem, e1, e2]
  (repeat (with_reducible refine Or.inr ?_))
  rw [← hQ]
  exact AG (.inl rfl) rfl zV rfl
attribute [go_sem] J0
theorem HB {a : Rat} (h : a.num ≠ 0) : a.num.sign ≠ 0 := fun e => h (Int.sign_eq_zero_iff_zero.1 e)
set_option maxHeartbeats 1000000 in
theorem Q6 {m n : Nat} {a b : Rat} (h : m + n ≤ 274877906944) : CW Tryz.prog 98 [rI m a, rI n b] (rI (m + n) (a * b)) := by
 refine cw zK zP zP ?_
 refine Ah (x := rI m a) DE zS zP fun ha => ?_
 refine Ah (x := rI n b) DE zS zP fun hb => ?_
 have hsa := Cq (a := a) (m := m) zO
 have hsb := Cq (a := b) (m := n) zO
 rw [BT ha] at hsa
 rw [BT hb] at hsb
 obtain ⟨p, x, d, ea, hd0, hx0, hx, hd, hg1⟩ := CE ha
 obtain ⟨q, y, e, eb, he0, hy0, hy, he, hg2⟩ := CE hb
 have hz := E8 (n := 0) zO zO
 have hz0 : (((0 : Int) : Rat)) = 0 := rfl
 rw [hz0] at hz
 rw [ea] at hsa; rw [eb] at hsb
 by_cases h0 : a.num = 0 ∨ b.num = 0
 ·have e0 : a * b = 0 := by rcases h0 with h0 | h0 <;> rw [Bk.1 h0] <;> simp
  have f0 : fits (m + n) (0 : Rat) := e0 ▸ Ed ha hb (Eh ha)
  have f64 : fits 64 (0 : Rat) := Eg (n := 0) zD zD
  have e1 : rI 64 (0 : Rat) = rI (m + n) 0 := by rw [BT f0, BT f64]
  rw [e1] at hz
  rw [e0, BT ha, BT hb, ea, eb]
  obtain ⟨s, hs⟩ : ∃ s, a.num.sign = s := ⟨_, rfl⟩
  obtain ⟨t, ht⟩ : ∃ s, b.num.sign = s := ⟨_, rfl⟩
  have hst : s = 0 ∨ t = 0 := h0.imp (fun h => by rw [← hs, h]; rfl) (fun h => by rw [← ht, h]; rfl)
  rw [hs] at hsa; rw [ht] at hsb
  simp only [ratI, natI] at hsa hsb
  clear e0 e1 f0 f64 h0 hs ht ea eb hx0 hy0
  by_cases hs0 : s = 0
  ·subst hs0
   (refine Ac (W := ⟨fun _ => false, fun r => if r = 3 then some [(1, 10), (3, 10), (6, 10), (8, 10), (1, 11), (3, 11), (6, 11), (8, 11), (10, 11)] else none⟩) false AS Tryz.func98 rfl zK zL (AC ?_); generalize hQ : Post Tryz.prog Tryz.f98 _ _ _ _ _ = Q; simp only [stIn, matL, matA, st00, natI,ratI])
   simp (disch := omega) only [go_sem, ↓AH, hsa, hsb, hz]
   (repeat (with_reducible refine Or.inr ?_))
   rw [← hQ]
   exact AP (id := 2) (x := rI (m + n) 0) (.inl rfl) rfl BA zV zU zU Ar zP
  ·have : t = 0 := by omega
   subst this
   (refine Ac (W := ⟨fun _ => false, fun r => if r = 3 then some [(1, 10), (3, 10), (6, 10), (8, 10), (1, 11), (3, 11), (6, 11), (8, 11), (10, 11)] else none⟩) false AS Tryz.func98 rfl zK zL (AC ?_); generalize hQ : Post Tryz.prog Tryz.f98 _ _ _ _ _ = Q; simp only [stIn, matL, matA, st00, natI,ratI])
   simp (disch := omega) only [go_sem, ↓AH, hsa, hsb, hz]
   (repeat (with_reducible refine Or.inr ?_))
   rw [← hQ]
   exact AP (id := 2) (x := rI (m + n) 0) (.inl rfl) rfl BA zV zU zU Ar zP
 have hs := HB (a := a) zO
 have ht := HB (a := b) zO
 have hxn := hx0.1 zO
 have hyn := hy0.1 zO
 rw [BT (Ed ha hb (Eh ha)), BT ha, BT hb, Jz ea eb hd0 he0, Oy hxn hyn hd0 he0 hg1 hg2, ea, eb]
 generalize a.num.sign = s at hsa hs
 generalize b.num.sign = t at hsb ht
 have lx := CD hx
 have ld := CD hd
 have ly := CD hy
 have le := CD he
 have l1 := Gp (b := false) (m := x) (n := e) zO zO he0
 have l2 := Gp (b := false) (m := y) (n := d) zO zO hd0
 have k1 := C5 (B := B32) (m := x) (g := Nat.gcd x e) AJ
 have k2 := C5 (B := B32) (m := e) (g := Nat.gcd x e) AJ
 have k3 := C5 (B := B32) (m := y) (g := Nat.gcd y d) AJ
 have k4 := C5 (B := B32) (m := d) (g := Nat.gcd y d) AJ
 generalize x / Nat.gcd x e = x' at *
 generalize e / Nat.gcd x e = e' at *
 generalize y / Nat.gcd y d = y' at *
 generalize d / Nat.gcd y d = d' at *
 have m1 := C4 (a := x') (b := y') zO zO
 have m2 := C4 (a := e') (b := d') zO zO
 rw [Bool.false_and] at l1 l2
 rw [bne]
 simp only [ratI, natI] at hsa hsb l1 l2 m1 m2
 clear k1 k2 k3 k4 lx ld ly le hx hy hd he hx0 hy0 hg1 hg2 ea eb ha hb h0 hz hz0
 (refine Ac (W := ⟨fun _ => false, fun r => if r = 3 then some [(1, 10), (3, 10), (6, 10), (8, 10), (1, 11), (3, 11), (6, 11), (8, 11), (10, 11)] else none⟩) false AS Tryz.func98 rfl zK zL (AC ?_); generalize hQ : Post Tryz.prog Tryz.f98 _ _ _ _ _ = Q; simp only [stIn, matL, matA, st00, natI,ratI])
 simp (disch := omega) only [go_sem, ↓AH, hsa, hsb, l1, l2, m1, m2]
 (repeat (with_reducible refine Or.inr ?_))
 rw [← hQ]
 exact AP (id := 2) (x := ratI (!(p == q), x' * y', e' * d')) (.inl rfl) rfl BA zV zU (by simp [AA, natI, ratI]) Ar zS
attribute [go_sem] Q6
attribute [go_sem] Q6
theorem Ht {m n : Nat} {a b : Rat} (h : m + n ≤ 274877906944) (h0 : b.num ≠ 0) : CW Tryz.prog 64 [rI m a, rI n b] (rI (m + n) (a / b)) := by
 refine cw zK zP zP ?_
 refine Ah (x := rI n b) DE zS zP fun hb => ?_
 have hm := Q6 (m := m) (n := n) (a := a) (b := b⁻¹) h
 have e1 : qd b = (decide (b.num < 0), b.num.natAbs, b.den) := rfl
 rw [BT (LJ hb h0), MT e1 h0, ← Rat.div_def] at hm
 rw [BT hb, e1]
 simp only [ratI, natI] at hm
 (refine AB (W := fun _ => false) false AS Tryz.func64 rfl zK zL (AC ?_); generalize hQ : Post Tryz.prog Tryz.f64 _ _ _ _ _ = Q; simp only [stIn, matL, matA, st00, natI,ratI])
 generalize decide (b.num < 0) = q at *
 simp (disch := omega) only [go_sem, hm]
 (repeat (with_reducible refine Or.inr ?_))
 rw [← hQ]
 exact AP (id := 2) (x := rI (m + n) (a / b)) (.inl rfl) rfl BA zV zU zU Ar zP
def cmpR (a b : Rat) : Int := cmpQ (qd a) (qd b)
theorem NX {a b : Rat} : cmpR a b < 0 ↔ a < b := (MJ a b).1
theorem TR {a b : Rat} : cmpR a b = 0 ↔ a = b := (MJ a b).2
theorem TS {a b : Rat} : 0 < cmpR a b ↔ b < a := by
 have h1 := NX (a := a) (b := b)
 have h2 := TR (a := a) (b := b)
 constructor
 ·intro h
  rcases Classical.em (b < a) with h' | h'
  ·exact h'
  ·have := Rat.not_lt.1 h'
   rcases Rat.le_iff_lt_or_eq.1 this with h3 | h3
   ·have := h1.2 h3; omega
   ·have := h2.2 h3; omega
 ·intro h
  have n1 : ¬ cmpR a b < 0 := fun h' => Rat.not_lt.2 (Rat.le_of_lt h) (h1.1 h')
  have n2 : ¬ cmpR a b = 0 := fun h' => by rw [h2.1 h'] at h; exact Rat.lt_irrefl h
  omega
attribute [go_sem] Ht
theorem NY {m n : Nat} {a b : Rat} (h : m + n ≤ 274877906944) : CW Tryz.prog 46 [rI m a, rI n b] (.int .i64 (cmpR a b)) := by
 refine cw zK zP zP ?_
 refine Ah (x := rI m a) DE zS zP fun ha => ?_
 refine Ah (x := rI n b) DE zS zP fun hb => ?_
 have hsa := Cq (a := a) (m := m) zO
 have hsb := Cq (a := b) (m := n) zO
 rw [BT ha] at hsa
 rw [BT hb] at hsb
 have e1 := Jp a
 have e2 := Jp b
 obtain ⟨p, x, d, ea, hd0, hx0, hx, hd, hg1⟩ := CE ha
 obtain ⟨q, y, e, eb, he0, hy0, hy, he, hg2⟩ := CE hb
 have b1 : a.num.sign = -1 ∨ a.num.sign = 0 ∨ a.num.sign = 1 := by rcases Int.lt_trichotomy a.num 0 with h | h | h <;> simp [h, Int.sign_eq_neg_one_of_neg, Int.sign_eq_one_of_pos]
 have b2 : b.num.sign = -1 ∨ b.num.sign = 0 ∨ b.num.sign = 1 := by rcases Int.lt_trichotomy b.num 0 with h | h | h <;> simp [h, Int.sign_eq_neg_one_of_neg, Int.sign_eq_one_of_pos]
 rw [ea] at hsa e1; rw [eb] at hsb e2
 rw [cmpR, cmpQ, BT ha, BT hb, ea, eb, e1, e2]
 generalize a.num.sign = s at *
 generalize b.num.sign = t at *
 have m1 := C4 (a := x) (b := e) (by have := CD hx; omega) (by have := CD he; omega)
 have m2 := C4 (a := y) (b := d) (by have := CD hy; omega) (by have := CD hd; omega)
 have hc := D0 (a := x * e) (b := y * d) (Nat.lt_of_le_of_lt (CD (AW hx he)) zO) (Nat.lt_of_le_of_lt (CD (AW hy hd)) zO)
 have hn : cmpN (x * e) (y * d) = cmpI (x * e) (y * d) := by simp [cmpI, cmpN]
 have b3 : cmpI (x * e) (y * d) = -1 ∨ cmpI (x * e) (y * d) = 0 ∨ cmpI (x * e) (y * d) = 1 := by
  rcases Nat.lt_trichotomy (x * e) (y * d) with h | h | h
  ·left; exact BS h
  ·right; left; rw [h]; exact By _
  ·right; right; exact Bx h
 simp only [hn]
 generalize cmpI (x * e) (y * d) = c at *
 simp only [ratI, natI] at hsa hsb m1 m2 hc
 clear hn hx hy hd he hx0 hy0 hg1 hg2 ea eb ha hb hd0 he0 e1 e2
 by_cases hst : s = t
 ·subst hst
  rw [if_neg zS]
  cases p
  ·rw [if_neg zS]
   (refine AB (W := fun _ => false) false AS Tryz.func46 rfl zK zL (AC ?_); generalize hQ : Post Tryz.prog Tryz.f46 _ _ _ _ _ = Q; simp only [stIn, matL, matA, st00, natI,ratI])
   simp (disch := omega) only [go_sem, hsa, hsb, m1, m2, hc]
   (repeat (with_reducible refine Or.inr ?_))
   rw [← hQ]
   exact AG (.inl rfl) rfl zV rfl
  ·rw [if_pos rfl]
   (refine AB (W := fun _ => false) false AS Tryz.func46 rfl zK zL (AC ?_); generalize hQ : Post Tryz.prog Tryz.f46 _ _ _ _ _ = Q; simp only [stIn, matL, matA, st00, natI,ratI])
   simp (disch := omega) only [go_sem, hsa, hsb, m1, m2, hc]
   (repeat (with_reducible refine Or.inr ?_))
   rw [← hQ]
   exact AG (.inl rfl) rfl zU rfl
 ·rw [if_pos hst]
  (refine AB (W := fun _ => false) false AS Tryz.func46 rfl zK zL (AC ?_); generalize hQ : Post Tryz.prog Tryz.f46 _ _ _ _ _ = Q; simp only [stIn, matL, matA, st00, natI,ratI])
  simp (disch := omega) only [go_sem, hsa, hsb]
  (repeat (with_reducible refine Or.inr ?_))
  rw [← hQ]
  exact AG (.inl rfl) rfl zU rfl
attribute [go_sem] Ht NY
attribute [go_sem] NY
theorem GU {m : Nat} {a : Rat} (h : m ≤ 274877906944) : CW Tryz.prog 70 [rI m a] (.bool (decide (a < 0))) := by
 refine cw zK zP zP ?_
 rw [← Jv]
 have b1 : decide (a.num < 0) = decide (a.num.sign < 0) := by
  rcases Int.lt_trichotomy a.num 0 with h | h | h
  ·rw [Int.sign_eq_neg_one_of_neg h]; simp [h]
  ·rw [h]; rfl
  ·rw [Int.sign_eq_one_of_pos h]; exact decide_eq_decide.2 zO
 have hsa := Cq (a := a) (m := m) zO
 simp only [rI] at hsa
 rw [b1]
 rw [b1] at hsa
 generalize decide (a.num.sign < 0) = p at *
 (refine AB (W := fun _ => false) false AS Tryz.func70 rfl zK zL (AC ?_); generalize hQ : Post Tryz.prog Tryz.f70 _ _ _ _ _ = Q; simp only [stIn, matL, matA, st00])
 simp (disch := omega) only [go_sem, hsa]
 (repeat (with_reducible refine Or.inr ?_))
 rw [← hQ]
 exact AG (.inl rfl) rfl zV rfl
attribute [go_sem] GU
attribute [go_sem] MV MU
def sumL (qs : List Rat) : Rat := qs.foldl (· + ·) 0
theorem Oz {qs : List Rat} {q : Rat} : sumL (qs ++ [q]) = sumL qs + q := by simp [sumL]
theorem I5 {qs : List Rat} {i : Nat} {q : Rat} (h : qs[i]? = some q) : sumL (qs.take (i + 1)) = sumL (qs.take i) + q := by rw [List.take_add_one, h]; exact Oz
theorem Xd {m : Nat} {qs : List Rat} (hm : m ≤ 100000) (hl : qs.length ≤ 1000) : CallOk Tryz.prog 71 [lI m qs] (rI (64 + qs.length * (m + 1)) (sumL qs)) [] := by
 obtain ⟨n, hn⟩ : ∃ n, qs.length = n := ⟨_, rfl⟩
 rw [hn] at hl ⊢
 (refine AB (W := fun _ => false) false AS Tryz.func71 rfl zK zL (AC ?_); generalize hQ : Post Tryz.prog Tryz.f71 _ _ _ _ _ = Q; simp only [stIn, matL, matA, st00])
 simp (disch := omega) only [go_sem, hn]
 (repeat (with_reducible refine Or.inr ?_))
 refine AM (fun (i : Nat) st => st.fr 0 = lI m qs ∧ st.fr 2 = .ptr 0 1 0 0 ∧ st.fr 3 = .ptr 1 1 0 0 ∧ st.fr 7 = lI m qs ∧ st.fr 8 = .int .i64 n ∧ st.fr 9 = .int .i64 i ∧ st.h 0 = ⟨76, [.agg [.bool false, .nil, .nil]], true, false, true⟩ ∧ st.h 1 = ⟨76, [rI (64 + i * (m + 1)) (sumL (qs.take i))], true, false, true⟩ ∧ 1 < st.nx ∧ (i ≤ n)) (fun (i : Nat) => n - i) (0)
  ⟨(by simp [AA, sumL] <;> omega), (by simp [AA, sumL] <;> omega), (by simp [AA, sumL] <;> omega), (by simp [AA, sumL] <;> omega), (by simp [AA, sumL] <;> omega), (by simp [AA, sumL] <;> omega), (by simp [AA, sumL] <;> omega), (by simp [AA, sumL] <;> omega), (by simp <;> omega), zO⟩ ?_
 rintro i ⟨fr, h, nx⟩ ⟨g0, g2, g3, g7, g8, g9, hm0, hm1, hnx, hi⟩ J hJ
 simp only at g0 g2 g3 g7 g8 g9 hm0 hm1 hnx
 by_cases hin : i < n
 ·obtain ⟨q, hq⟩ := AI (xs := qs) (i := i) zO
  have hb : i * (m + 1) ≤ 1000 * 100001 := Nat.mul_le_mul zO zO
  have e : 64 + (i + 1) * (m + 1) = 64 + i * (m + 1) + m + 1 := by rw [Nat.add_mul]; omega
  have key := hJ (i + 1)
  rw [I5 hq, e] at key
  simp (disch := omega) only [go_sem, g0, g2, g3, g7, g8, g9, hm0, hm1, hq, hn]
  (repeat (with_reducible refine Or.inr ?_))
  exact key _ ⟨(by simp [AA, g0] <;> omega), (by simp [AA, g2] <;> omega), (by simp [AA, g3] <;> omega), (by simp [AA, g7] <;> omega), (by simp [AA, g8] <;> omega), zV, (by simp [AA, hm0] <;> omega), zV, (by simp <;> omega), hin⟩ zO
 ·obtain rfl : i = n := by omega
  rw [List.take_of_length_le zO] at hm1
  simp (disch := omega) only [go_sem, g0, g2, g3, g7, g8, g9, hm0, hm1, hn]
  (repeat (with_reducible refine Or.inr ?_))
  rw [← hQ]
  exact AP (id := 0) (x := rI (64 + i * (m + 1)) (sumL qs)) (.inl rfl) rfl BA (by simp [AA, g2] <;> omega) zU zU Ar zP
attribute [go_sem] GU
theorem Q7 {m : Nat} {qs : List Rat} (hm : m ≤ 100000) (hl : qs.length ≤ 1000) : CW Tryz.prog 71 [lI m qs] (rI (64 + qs.length * (m + 1)) (sumL qs)) :=
 cw zK zP zP (Xd hm hl)
attribute [go_sem] Q7
theorem MX {P : Program} {W : FuncId → Bool} {ops : Array Oper} {os : List Oper} {fr : Nat → AV} {h : Nat → Blk} {nx : Nat} {K : St → Prop} {d t : Nat} {p : String} {af : Array Edge} {x : Operand} : wpos P W ops (⟨some d, .nilCheck x, t, p, af, none⟩ :: os) ⟨fr, h, nx⟩ K = match evA fr x with
  | .ptr id n i j => wpos P W ops os ⟨upd fr d (.ptr id n i j), h, nx⟩ K
  | .cptr t v j => wpos P W ops os ⟨upd fr d (.cptr t v j), h, nx⟩ K
  | _ => False := by
 rw [Au (by intros; simp)]; simp only [evalOp, Bq]; cases evA fr x <;> rfl
attribute [go_sem ↓] MX
end Go.Proofs.YthiddlfddncbmaaGreatDoor
