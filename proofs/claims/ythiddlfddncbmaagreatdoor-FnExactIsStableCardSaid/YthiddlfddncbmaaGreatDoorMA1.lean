/- A part of the proof. -/
import Derived.Test.YthiddlfddncbmaaGreatDoorM7

set_option linter.unusedVariables false
set_option linter.unusedSimpArgs false
set_option maxRecDepth 100000
namespace Go.Proofs.YthiddlfddncbmaaGreatDoor
open Go

theorem KK (m : Ntw) (hl : m.lens) : CallOk Tryz.prog 3 [m.av] (.bool true) [] := by
 have hz := Gv m hl
 have pu : AV.pureL [m.av] = true := by simp [AV.pure, AV.pureL, AU, BR]
 obtain ⟨z, hzz⟩ : ∃ z, szN m 1000000 = z := ⟨_, rfl⟩
 rw [hzz] at hz
 by_cases hneg : z < 0
 ·(refine Ac (W := ⟨fun g => g == 9, fun r => if r = 10 then some [(0, 0), (0, 2)] else none⟩) false AS Tryz.func3 rfl zK zL (AC ?_); generalize hQ : Post Tryz.prog Tryz.f3 _ _ _ _ _ = Q; simp only [stIn, matL, matA, st00, Am _ _ _ pu])
  simp (disch := omega) only [go_sem, ↓AH, hz]
  (repeat (with_reducible refine Or.inr ?_))
  rw [← hQ]
  exact AG (.inl rfl) rfl zV rfl
 have hs : m.small := PH (by rw [hzz]; exact hneg)
 have hT := Gu m false hs
 have hT2 := Gu m true hs
 have hS := Mw hs
 have hI := My hs
 have hI2 : CallOk Tryz.prog 10 [.agg [snpP true (rowOf m.arr), snpP true (rowOf m.srv), snpSS true (rowsP m.rts)]] (.bool (isStN m)) [] := hI.args (SubL.cons Mo .nil)
 generalize isStN m = v at *
 have hvv : (v == v) = true := by simp
 have pf : AV.pureL [m.av, .bool false] = true := by simp [AV.pure, AV.pureL, AU, BR]
 have pt : AV.pureL [m.av, .bool true] = true := by simp [AV.pure, AV.pureL, AU, BR]
 (refine Ac (W := ⟨fun g => g == 9, fun r => if r = 10 then some [(0, 0), (0, 2)] else none⟩) false AS Tryz.func3 rfl zK zL (AC ?_); generalize hQ : Post Tryz.prog Tryz.f3 _ _ _ _ _ = Q; simp only [stIn, matL, matA, st00, Am _ _ _ pu])
 simp (disch := omega) only [go_sem, ↓AH, hz]
 (repeat (with_reducible refine Or.inr ?_))
 refine Dd hT zK pf rfl (fun st => F1 st) ?_
 rintro e1 h1 nx1 ⟨k1, k2, N1⟩
 simp only at k1 k2 N1
 have a0 : h1 0 = ⟨25, [m.av], true, false, true⟩ := by rw [k2 0 zO]; rfl
 simp (disch := omega) only [go_sem, ↓AH]
 refine ID hS zK (Ld N1) rfl rfl ?_
 simp (disch := omega) only [go_sem, ↓AH, a0]
 refine Dd hT zK pf rfl (fun st => F1 st) ?_
 rintro e2 h2 nx2 ⟨l1, l2, N2⟩
 simp only at l1 l2 N2
 have b0 : h2 0 = ⟨25, [m.av], true, false, true⟩ := by rw [l2 0 zO]; exact a0
 have N2' := N2
 obtain ⟨i1, i2, o, es, lo1, hi1, rfl, p1, p2, p3, _⟩ := N2.out
 have n1 : (0 = nx2) = False := by simp; omega
 simp (disch := omega) only [go_sem, ↓AH, b0, n1]
 refine ID hI zK (Ld (N2'.keep (fun i h1 h2 => by simp (disch := omega) only [AA, if_neg]) (Nat.le_refl _))) rfl rfl ?_
 simp (disch := omega) only [go_sem, ↓AH, b0, n1, hvv]
 refine Dd hT zK pf rfl (fun st => F1 st) ?_
 rintro e3 h3 nx3 ⟨m1, m2, N3⟩
 simp only at m1 m2 N3
 have c0 : h3 0 = ⟨25, [m.av], true, false, true⟩ := by rw [m2 0 zO]; simp (disch := omega) only [AA, if_neg, b0]
 have c1 : h3 nx2 = ⟨28, [.agg [.ref i1 (m.arr.length + roomB m.arr.length) 0 m.arr.length, .ref i2 (m.srv.length + roomB m.srv.length) 0 m.srv.length, .ref o (m.rts.length + roomB m.rts.length) 0 m.rts.length]], true, false, true⟩ := by rw [m2 nx2 zO]; simp (disch := omega) only [AA, ↓reduceIte, if_pos]
 have N2a := N2'.keep (h' := h3) (hi' := nx2) (fun i q1 q2 => by rw [m2 i zO]; simp (disch := omega) only [AA, if_neg]) (Nat.le_refl _)
 simp (disch := omega) only [go_sem, ↓AH, c0, c1]
 refine Aj (G2 N2a N3 hs zO (Nat.le_refl _)) zK (.inr ⟨rfl, rfl⟩) ?_
 simp (disch := omega) only [go_sem, ↓AH, c0, c1, n1]
 refine Dd hT2 zK pt rfl (fun st => F1 st) ?_
 rintro e4 h4 nx4 ⟨r1, r2, N4⟩
 simp only at r1 r2 N4
 simp (disch := omega) only [go_sem, ↓AH]
 refine ID hI2 zK (Nl N4) rfl rfl ?_
 simp (disch := omega) only [go_sem, ↓AH, hvv]
 rw [← hQ]
 exact AG (.inl rfl) rfl zV rfl
theorem IM : LawOk Tryz.prog 3 [.st [.sl 9 (.str), .sl 9 (.str), .sl 22 (.sl 9 (.str))]] := by
 intro xs h
 obtain ⟨x, _, rfl, hx, rfl⟩ := h
 obtain ⟨m, rfl, hm⟩ := UH hx
 exact KK m hm
end Go.Proofs.YthiddlfddncbmaaGreatDoor
