/- Walk of the reference's l01Right. Conditions: those of each theorem. -/
import Derived.Test.YtdldgchkinflmaaTm8
set_option linter.unusedVariables false
namespace Go.Proofs.Ytdldgchkinflmaa.Fn
open Go.RowKit Go.Proofs.Ytdldgchkinflmaa.Lib Go.Proofs.Ytdldgchkinflmaa.Plan

set_option maxRecDepth 100000 in
set_option maxHeartbeats 40000000 in
theorem l01Right (a : T) : Rights 72 a := by
  induction a using T.ind with
  | h k n s ts ih =>
  intro ca w ha hta
  obtain ⟨A1, c1, rfl, h1⟩ := Rec.term_iff.1 ha
  change Rec.term.sl.rd False w (Old w) ts [.slice A1 ts.length c1] at h1
  have WT := wt_sl _ _ _ _ _ hta
  have hs := wt_s _ _ _ _ _ hta
  have HIH := Aside.mk ih
  have HW := Aside.mk (wt_kid WT)
  have L1 := wt_len WT
  obtain ⟨_, _, he, hcap, h1⟩ := h1
  injection he with he _
  injection he with e1 e2 e3
  subst e1 e3
  have HA := Aside.mk h1
  obtain ⟨res, hres⟩ : ∃ r, r = (T.mk k n s ts).right := ⟨_, rfl⟩
  rw [← hres]
  have HV := Aside.mk hres
  obtain ⟨m, hln⟩ : ∃ m, m = ts.length := ⟨_, rfl⟩
  have hln2 : ts.length = m := hln.symm
  have HN := Aside.mk hln
  have HF : Aside (ownB k n s m = false → res = false) := ⟨fun h => by rw [hres]; exact right_own _ _ _ _ (by rw [hln2]; exact h)⟩
  show Calls Try.prog 72 #[.agg #[.int .i64 k, .int .i64 n, .string s, .slice A1 ts.length c1]] w _
  rw [hln2] at L1 hcap ⊢
  clear ih h1 ha hta hres hln hln2 WT
  have K0 := Aside.mk (Blk.new w 26 [.int .i64 k, .int .i64 n, .string s, .slice A1 m c1])
  have B0 : Aside (Below w.heap.size w (w.alloc (.cells #[.int .i64 k, .int .i64 n, .string s, .slice A1 m c1] 26))) := ⟨by go_grown⟩
  rcases Classical.em (k = 1 ∨ k = 2 ∨ k = 3 ∨ k = 4 ∨ k = 5 ∨ k = 6 ∨ k = 7 ∨ k = 8 ∨ k = 9) with hk | hk
  rotate_left
  · have E : Aside (res = false) := ⟨HF.out (own_other hk)⟩
    have q1 : (k == 1) = false := by simp; omega
    have p1 : (k != 1) = true := by simp; omega
    have q2 : (k == 2) = false := by simp; omega
    have p2 : (k != 2) = true := by simp; omega
    have q3 : (k == 3) = false := by simp; omega
    have p3 : (k != 3) = true := by simp; omega
    have q4 : (k == 4) = false := by simp; omega
    have p4 : (k != 4) = true := by simp; omega
    have q5 : (k == 5) = false := by simp; omega
    have p5 : (k != 5) = true := by simp; omega
    have q6 : (k == 6) = false := by simp; omega
    have p6 : (k != 6) = true := by simp; omega
    have q7 : (k == 7) = false := by simp; omega
    have p7 : (k != 7) = true := by simp; omega
    have q8 : (k == 8) = false := by simp; omega
    have p8 : (k != 8) = true := by simp; omega
    have q9 : (k == 9) = false := by simp; omega
    have p9 : (k != 9) = true := by simp; omega
    clear hk HV HF HA
    by_cases cS : s.size = 0
    rotate_left
    · have qS : 0 < (s.size : Int) := by omega
      clear cS
      go_enter Try.func72, Try.ntmps72
      go_wp2_with fail
      go_ret
      exact ⟨ret_bool E.out.symm, by go_grown⟩
    have qS : (s.size : Int) ≤ 0 := by omega
    clear cS
    by_cases cN : n = 0
    · have qN : (n != 0) = false := by simpa using cN
      clear cN
      go_enter Try.func72, Try.ntmps72
      go_wp2_with fail
      go_ret
      exact ⟨ret_bool E.out.symm, by go_grown⟩
    · have qN : (n != 0) = true := by simpa using cN
      clear cN
      go_enter Try.func72, Try.ntmps72
      go_wp2_with fail
      go_ret
      exact ⟨ret_bool E.out.symm, by go_grown⟩
  rcases hk with rfl | rfl | rfl | rfl | rfl | rfl | rfl | rfl | rfl
  · by_cases cS : s.size = 0
    rotate_left
    · have E : Aside (res = false) := ⟨HF.out (by simp [ownB, -ByteArray.size_eq_zero_iff] at cS ⊢ <;> first | done | omega | simp_all)⟩
      have qS : 0 < (s.size : Int) := by omega
      clear HF cS
      clear HV HA HIH HW
      go_enter Try.func72, Try.ntmps72
      go_wp2_with fail
      go_ret
      exact ⟨ret_bool E.out.symm, by go_grown⟩
    by_cases cI : -1000000000000000 ≤ n
    rotate_left
    · have E : Aside (res = false) := ⟨HF.out (by simp [ownB, -ByteArray.size_eq_zero_iff] at cS cI ⊢ <;> first | done | omega | simp_all)⟩
      have qS : (s.size : Int) ≤ 0 := by omega
      have qI : n < -1000000000000000 := by omega
      clear HF cS cI
      clear HV HA HIH HW
      go_enter Try.func72, Try.ntmps72
      go_wp2_with fail
      go_ret
      exact ⟨ret_bool E.out.symm, by go_grown⟩
    by_cases cJ : n ≤ 1000000000000000
    rotate_left
    · have E : Aside (res = false) := ⟨HF.out (by simp [ownB, -ByteArray.size_eq_zero_iff] at cS cI cJ ⊢ <;> first | done | omega | simp_all)⟩
      have qS : (s.size : Int) ≤ 0 := by omega
      have qI : -1000000000000000 ≤ n := cI
      have qH : 1000000000000000 < n := by omega
      clear HF cS cI cJ
      clear HV HA HIH HW
      go_enter Try.func72, Try.ntmps72
      go_wp2_with fail
      go_ret
      exact ⟨ret_bool E.out.symm, by go_grown⟩
    by_cases cM : m = 0
    rotate_left
    · have E : Aside (res = false) := ⟨HF.out (by simp [ownB, -ByteArray.size_eq_zero_iff] at cS cI cJ cM ⊢ <;> first | done | omega | simp_all)⟩
      have qS : (s.size : Int) ≤ 0 := by omega
      have qI : -1000000000000000 ≤ n := cI
      have qH : n ≤ 1000000000000000 := cJ
      have qM : 0 < (m : Int) := by omega
      clear HF cS cI cJ cM
      clear HV HA HIH HW
      go_enter Try.func72, Try.ntmps72
      go_wp2_with fail
      go_ret
      exact ⟨ret_bool E.out.symm, by go_grown⟩
    have HO : Aside (ownB 1 n s m = true) := ⟨by simp [ownB, -ByteArray.size_eq_zero_iff] at cS cI cJ cM ⊢ <;> first | done | omega | simp_all⟩
    have qS : (s.size : Int) ≤ 0 := by omega
    have qI : -1000000000000000 ≤ n := cI
    have qH : n ≤ 1000000000000000 := cJ
    have qM : (m : Int) ≤ 0 := by omega
    clear HF cS cI cJ cM
    go_enter Try.func72, Try.ntmps72
    go_wp2_with fail
    go_loopw [4] (fun i wr => ∃ j : Nat, j ≤ m ∧ i = .int .i64 j ∧ Aside (Blk wr w.heap.size 26 [.int .i64 1, .int .i64 n, .string s, .slice A1 m c1]) ∧ Aside (Below w.heap.size w wr) ∧ Aside (∀ (t : Nat) (h : t < ts.length), t < j → ts[t].right = true)) (fun i _ => m - (intOf i).toNat)
    case atStart => exact ⟨0, Nat.zero_le _, rfl, K0, B0, ⟨fun t _ h => absurd h (Nat.not_lt_zero _)⟩⟩
    case round =>
      obtain ⟨j, hj, rfl, hk0, hb0, hall⟩ := hrel
      clear K0 B0
      have y0 := hk0.out.cell 0
      have y3 := hk0.out.cell 3
      simp only [List.getElem?_cons_zero, List.getElem?_cons_succ] at y0 y3
      by_cases hlt : j < m
      · exfalso; omega
      · obtain rfl : j = m := by omega
        have HRA : Aside (∀ (t : Nat) (h : t < ts.length), ts[t].right = true) := ⟨fun t ht => hall.out t ht (by have := HN.out; omega)⟩
        have HV2 : Aside (res = (!decide ((1 : Int) = 7) || rising (evens ts))) := ⟨by rw [HV.out]; exact right_split _ _ _ _ (by rw [← HN.out]; exact HO.out) HRA.out⟩
        clear HV hall
        have E : Aside (res = true) := ⟨by rw [HV2.out]; rfl⟩
        go_wp2
        go_ret
        exact ⟨ret_bool E.out.symm, hb0.out⟩
  · by_cases cN : n = 0
    rotate_left
    · have E : Aside (res = false) := ⟨HF.out (by simp [ownB, -ByteArray.size_eq_zero_iff] at cN ⊢ <;> first | done | omega | simp_all)⟩
      have qN : (n != 0) = true := by simpa using cN
      clear HF cN
      clear HV HA HIH HW
      go_enter Try.func72, Try.ntmps72
      go_wp2_with fail
      go_ret
      exact ⟨ret_bool E.out.symm, by go_grown⟩
    cases cB : nameB s
    · have E : Aside (res = false) := ⟨HF.out (by simp [ownB, -ByteArray.size_eq_zero_iff] at cN cB ⊢ <;> first | done | omega | simp_all)⟩
      have qN : (n != 0) = false := by simpa using cN
      have HB : Aside (nameB s = false) := ⟨cB⟩
      clear HF cN cB
      clear HV HA HIH HW
      go_enter Try.func72, Try.ntmps72
      go_wp2_with fail
      refine (l01Name s _ (by omega)).mono ?_
      rintro e w' ⟨rfl, rfl⟩
      rw [HB.out]
      go_wp2_with fail
      go_ret
      exact ⟨ret_bool E.out.symm, by go_grown⟩
    by_cases cM : m = 0
    rotate_left
    · have E : Aside (res = false) := ⟨HF.out (by simp [ownB, -ByteArray.size_eq_zero_iff] at cN cB cM ⊢ <;> first | done | omega | simp_all)⟩
      have qN : (n != 0) = false := by simpa using cN
      have HB : Aside (nameB s = true) := ⟨cB⟩
      have qM : 0 < (m : Int) := by omega
      clear HF cN cB cM
      clear HV HA HIH HW
      go_enter Try.func72, Try.ntmps72
      go_wp2_with fail
      refine (l01Name s _ (by omega)).mono ?_
      rintro e w' ⟨rfl, rfl⟩
      rw [HB.out]
      go_wp2_with fail
      go_ret
      exact ⟨ret_bool E.out.symm, by go_grown⟩
    have HO : Aside (ownB 2 n s m = true) := ⟨by simp [ownB, -ByteArray.size_eq_zero_iff] at cN cB cM ⊢ <;> first | done | omega | simp_all⟩
    have qN : (n != 0) = false := by simpa using cN
    have HB : Aside (nameB s = true) := ⟨cB⟩
    have qM : (m : Int) ≤ 0 := by omega
    clear HF cN cB cM
    go_enter Try.func72, Try.ntmps72
    go_wp2_with fail
    refine (l01Name s _ (by omega)).mono ?_
    rintro e w' ⟨rfl, rfl⟩
    rw [HB.out]
    go_wp2_with fail
    go_loopw [4] (fun i wr => ∃ j : Nat, j ≤ m ∧ i = .int .i64 j ∧ Aside (Blk wr w.heap.size 26 [.int .i64 2, .int .i64 n, .string s, .slice A1 m c1]) ∧ Aside (Below w.heap.size w wr) ∧ Aside (∀ (t : Nat) (h : t < ts.length), t < j → ts[t].right = true)) (fun i _ => m - (intOf i).toNat)
    case atStart => exact ⟨0, Nat.zero_le _, rfl, K0, B0, ⟨fun t _ h => absurd h (Nat.not_lt_zero _)⟩⟩
    case round =>
      obtain ⟨j, hj, rfl, hk0, hb0, hall⟩ := hrel
      clear K0 B0
      have y0 := hk0.out.cell 0
      have y3 := hk0.out.cell 3
      simp only [List.getElem?_cons_zero, List.getElem?_cons_succ] at y0 y3
      by_cases hlt : j < m
      · exfalso; omega
      · obtain rfl : j = m := by omega
        have HRA : Aside (∀ (t : Nat) (h : t < ts.length), ts[t].right = true) := ⟨fun t ht => hall.out t ht (by have := HN.out; omega)⟩
        have HV2 : Aside (res = (!decide ((2 : Int) = 7) || rising (evens ts))) := ⟨by rw [HV.out]; exact right_split _ _ _ _ (by rw [← HN.out]; exact HO.out) HRA.out⟩
        clear HV hall
        have E : Aside (res = true) := ⟨by rw [HV2.out]; rfl⟩
        go_wp2
        go_ret
        exact ⟨ret_bool E.out.symm, hb0.out⟩
  · by_cases cS : s.size = 0
    rotate_left
    · have E : Aside (res = false) := ⟨HF.out (by simp [ownB, -ByteArray.size_eq_zero_iff] at cS ⊢ <;> first | done | omega | simp_all)⟩
      have qS : 0 < (s.size : Int) := by omega
      clear HF cS
      clear HV HA HIH HW
      go_enter Try.func72, Try.ntmps72
      go_wp2_with fail
      go_ret
      exact ⟨ret_bool E.out.symm, by go_grown⟩
    by_cases cG : 0 ≤ n
    rotate_left
    · have E : Aside (res = false) := ⟨HF.out (by simp [ownB, -ByteArray.size_eq_zero_iff] at cS cG ⊢ <;> first | done | omega | simp_all)⟩
      have qS : (s.size : Int) ≤ 0 := by omega
      have qG : n < 0 := by omega
      clear HF cS cG
      clear HV HA HIH HW
      go_enter Try.func72, Try.ntmps72
      go_wp2_with fail
      go_ret
      exact ⟨ret_bool E.out.symm, by go_grown⟩
    by_cases cH : n ≤ 1000000000000000
    rotate_left
    · have E : Aside (res = false) := ⟨HF.out (by simp [ownB, -ByteArray.size_eq_zero_iff] at cS cG cH ⊢ <;> first | done | omega | simp_all)⟩
      have qS : (s.size : Int) ≤ 0 := by omega
      have qG : 0 ≤ n := cG
      have qH : 1000000000000000 < n := by omega
      clear HF cS cG cH
      clear HV HA HIH HW
      go_enter Try.func72, Try.ntmps72
      go_wp2_with fail
      go_ret
      exact ⟨ret_bool E.out.symm, by go_grown⟩
    by_cases cM : m = 0
    rotate_left
    · have E : Aside (res = false) := ⟨HF.out (by simp [ownB, -ByteArray.size_eq_zero_iff] at cS cG cH cM ⊢ <;> first | done | omega | simp_all)⟩
      have qS : (s.size : Int) ≤ 0 := by omega
      have qG : 0 ≤ n := cG
      have qH : n ≤ 1000000000000000 := cH
      have qM : 0 < (m : Int) := by omega
      clear HF cS cG cH cM
      clear HV HA HIH HW
      go_enter Try.func72, Try.ntmps72
      go_wp2_with fail
      go_ret
      exact ⟨ret_bool E.out.symm, by go_grown⟩
    have HO : Aside (ownB 3 n s m = true) := ⟨by simp [ownB, -ByteArray.size_eq_zero_iff] at cS cG cH cM ⊢ <;> first | done | omega | simp_all⟩
    have qS : (s.size : Int) ≤ 0 := by omega
    have qG : 0 ≤ n := cG
    have qH : n ≤ 1000000000000000 := cH
    have qM : (m : Int) ≤ 0 := by omega
    clear HF cS cG cH cM
    go_enter Try.func72, Try.ntmps72
    go_wp2_with fail
    go_loopw [4] (fun i wr => ∃ j : Nat, j ≤ m ∧ i = .int .i64 j ∧ Aside (Blk wr w.heap.size 26 [.int .i64 3, .int .i64 n, .string s, .slice A1 m c1]) ∧ Aside (Below w.heap.size w wr) ∧ Aside (∀ (t : Nat) (h : t < ts.length), t < j → ts[t].right = true)) (fun i _ => m - (intOf i).toNat)
    case atStart => exact ⟨0, Nat.zero_le _, rfl, K0, B0, ⟨fun t _ h => absurd h (Nat.not_lt_zero _)⟩⟩
    case round =>
      obtain ⟨j, hj, rfl, hk0, hb0, hall⟩ := hrel
      clear K0 B0
      have y0 := hk0.out.cell 0
      have y3 := hk0.out.cell 3
      simp only [List.getElem?_cons_zero, List.getElem?_cons_succ] at y0 y3
      by_cases hlt : j < m
      · exfalso; omega
      · obtain rfl : j = m := by omega
        have HRA : Aside (∀ (t : Nat) (h : t < ts.length), ts[t].right = true) := ⟨fun t ht => hall.out t ht (by have := HN.out; omega)⟩
        have HV2 : Aside (res = (!decide ((3 : Int) = 7) || rising (evens ts))) := ⟨by rw [HV.out]; exact right_split _ _ _ _ (by rw [← HN.out]; exact HO.out) HRA.out⟩
        clear HV hall
        have E : Aside (res = true) := ⟨by rw [HV2.out]; rfl⟩
        go_wp2
        go_ret
        exact ⟨ret_bool E.out.symm, hb0.out⟩
  · by_cases cS : s.size = 0
    rotate_left
    · have E : Aside (res = false) := ⟨HF.out (by simp [ownB, -ByteArray.size_eq_zero_iff] at cS ⊢ <;> first | done | omega | simp_all)⟩
      have qS : 0 < (s.size : Int) := by omega
      clear HF cS
      clear HV HA HIH HW
      go_enter Try.func72, Try.ntmps72
      go_wp2_with fail
      go_ret
      exact ⟨ret_bool E.out.symm, by go_grown⟩
    by_cases cG : 0 ≤ n
    rotate_left
    · have E : Aside (res = false) := ⟨HF.out (by simp [ownB, -ByteArray.size_eq_zero_iff] at cS cG ⊢ <;> first | done | omega | simp_all)⟩
      have qS : (s.size : Int) ≤ 0 := by omega
      have qG : n < 0 := by omega
      clear HF cS cG
      clear HV HA HIH HW
      go_enter Try.func72, Try.ntmps72
      go_wp2_with fail
      go_ret
      exact ⟨ret_bool E.out.symm, by go_grown⟩
    by_cases cH : n ≤ 1000000000000000
    rotate_left
    · have E : Aside (res = false) := ⟨HF.out (by simp [ownB, -ByteArray.size_eq_zero_iff] at cS cG cH ⊢ <;> first | done | omega | simp_all)⟩
      have qS : (s.size : Int) ≤ 0 := by omega
      have qG : 0 ≤ n := cG
      have qH : 1000000000000000 < n := by omega
      clear HF cS cG cH
      clear HV HA HIH HW
      go_enter Try.func72, Try.ntmps72
      go_wp2_with fail
      go_ret
      exact ⟨ret_bool E.out.symm, by go_grown⟩
    have HO : Aside (ownB 4 n s m = true) := ⟨by simp [ownB, -ByteArray.size_eq_zero_iff] at cS cG cH ⊢ <;> first | done | omega | simp_all⟩
    have qS : (s.size : Int) ≤ 0 := by omega
    have qG : 0 ≤ n := cG
    have qH : n ≤ 1000000000000000 := cH
    clear HF cS cG cH
    go_enter Try.func72, Try.ntmps72
    go_wp2_with fail
    go_loopw [4] (fun i wr => ∃ j : Nat, j ≤ m ∧ i = .int .i64 j ∧ Aside (Blk wr w.heap.size 26 [.int .i64 4, .int .i64 n, .string s, .slice A1 m c1]) ∧ Aside (Below w.heap.size w wr) ∧ Aside (∀ (t : Nat) (h : t < ts.length), t < j → ts[t].right = true)) (fun i _ => m - (intOf i).toNat)
    case atStart => exact ⟨0, Nat.zero_le _, rfl, K0, B0, ⟨fun t _ h => absurd h (Nat.not_lt_zero _)⟩⟩
    case round =>
      obtain ⟨j, hj, rfl, hk0, hb0, hall⟩ := hrel
      clear K0 B0
      have y0 := hk0.out.cell 0
      have y3 := hk0.out.cell 3
      simp only [List.getElem?_cons_zero, List.getElem?_cons_succ] at y0 y3
      by_cases hlt : j < m
      · have hlt1 : j < ts.length := by rw [← HN.out]; exact hlt
        rcases HA.out with h0 | ⟨b1, o1, rfl, hb1, f1, hf1, -, hrow1⟩
        · exfalso; rw [h0] at hlt1; exact absurd hlt1 (Nat.not_lt_zero _)
        obtain ⟨cs1, hr1, hc1⟩ := hrow1 j hlt1
        obtain ⟨x0, x1, x2, x3a, x3b, x3c, rfl⟩ := shapeTerm hr1
        have hbel2 := hb0.out
        have d10 : wr.cell? ⟨b1, o1 + j * 4, none⟩ = some (.int .i64 x0) := (hbel2.cell (p := ⟨b1, o1 + j * 4 + 0, none⟩) hb1).trans (hc1 0 (by decide))
        have d11 : wr.cell? ⟨b1, o1 + j * 4 + 1, none⟩ = some (.int .i64 x1) := (hbel2.cell (p := ⟨b1, o1 + j * 4 + 1, none⟩) hb1).trans (hc1 1 (by decide))
        have d12 : wr.cell? ⟨b1, o1 + j * 4 + 2, none⟩ = some (.string x2) := (hbel2.cell (p := ⟨b1, o1 + j * 4 + 2, none⟩) hb1).trans (hc1 2 (by decide))
        have d13 : wr.cell? ⟨b1, o1 + j * 4 + 3, none⟩ = some (.slice x3a x3b x3c) := (hbel2.cell (p := ⟨b1, o1 + j * 4 + 3, none⟩) hb1).trans (hc1 3 (by decide))
        have HR1 := Aside.mk (Rec.term.up (Rec.term.mono hr1 (fun c hc => (hf1 j c hc).1)) (fun _ h => h) hbel2)
        have W1 := HW.out j hlt1
        clear hc1 hrow1 hf1 hr1 hbel2
        go_wp2_with fail
        refine (HIH.out ts[j] (List.getElem_mem hlt1) [.int .i64 x0, .int .i64 x1, .string x2, .slice x3a x3b x3c] _ HR1.out W1).mono ?_
        rintro e w2 ⟨rfl, hb2⟩
        have hk2 := Aside.mk (hk0.out.below hb2)
        have hb3 := Aside.mk (below_later hb0.out hb2)
        clear d10 d11 d12 d13 HR1 hb2 hk0 hb0 y0 y3
        cases hR : ts[j].right
        · have E : Aside (res = false) := ⟨by rw [HV.out]; exact right_kid _ _ _ _ j hlt1 hR⟩
          go_wp2
          go_ret
          exact ⟨ret_bool E.out.symm, hb3.out⟩
        have hall2 : Aside (∀ (t : Nat) (h : t < ts.length), t < j + 1 → ts[t].right = true) := ⟨fun t ht htj => by
          by_cases e : t = j
          · subst e; exact hR
          · exact hall.out t ht (by omega)⟩
        clear hall hR
        go_wp2_with fail
        go_roundw
        case rel => exact ⟨j + 1, by omega, by go_num, hk2, hb3, hall2⟩
        case measure => first | (simp [intOf]; done) | (simp [intOf]; omega)
      · obtain rfl : j = m := by omega
        have HRA : Aside (∀ (t : Nat) (h : t < ts.length), ts[t].right = true) := ⟨fun t ht => hall.out t ht (by have := HN.out; omega)⟩
        have HV2 : Aside (res = (!decide ((4 : Int) = 7) || rising (evens ts))) := ⟨by rw [HV.out]; exact right_split _ _ _ _ (by rw [← HN.out]; exact HO.out) HRA.out⟩
        clear HV hall
        have E : Aside (res = true) := ⟨by rw [HV2.out]; rfl⟩
        go_wp2
        go_ret
        exact ⟨ret_bool E.out.symm, hb0.out⟩
  · by_cases cS : s.size = 0
    rotate_left
    · have E : Aside (res = false) := ⟨HF.out (by simp [ownB, -ByteArray.size_eq_zero_iff] at cS ⊢ <;> first | done | omega | simp_all)⟩
      have qS : 0 < (s.size : Int) := by omega
      clear HF cS
      clear HV HA HIH HW
      go_enter Try.func72, Try.ntmps72
      go_wp2_with fail
      go_ret
      exact ⟨ret_bool E.out.symm, by go_grown⟩
    by_cases cG : 0 ≤ n
    rotate_left
    · have E : Aside (res = false) := ⟨HF.out (by simp [ownB, -ByteArray.size_eq_zero_iff] at cS cG ⊢ <;> first | done | omega | simp_all)⟩
      have qS : (s.size : Int) ≤ 0 := by omega
      have qG : n < 0 := by omega
      clear HF cS cG
      clear HV HA HIH HW
      go_enter Try.func72, Try.ntmps72
      go_wp2_with fail
      go_ret
      exact ⟨ret_bool E.out.symm, by go_grown⟩
    by_cases cH : n ≤ 1000000000000000
    rotate_left
    · have E : Aside (res = false) := ⟨HF.out (by simp [ownB, -ByteArray.size_eq_zero_iff] at cS cG cH ⊢ <;> first | done | omega | simp_all)⟩
      have qS : (s.size : Int) ≤ 0 := by omega
      have qG : 0 ≤ n := cG
      have qH : 1000000000000000 < n := by omega
      clear HF cS cG cH
      clear HV HA HIH HW
      go_enter Try.func72, Try.ntmps72
      go_wp2_with fail
      go_ret
      exact ⟨ret_bool E.out.symm, by go_grown⟩
    by_cases cM : m = 0
    rotate_left
    · have E : Aside (res = false) := ⟨HF.out (by simp [ownB, -ByteArray.size_eq_zero_iff] at cS cG cH cM ⊢ <;> first | done | omega | simp_all)⟩
      have qS : (s.size : Int) ≤ 0 := by omega
      have qG : 0 ≤ n := cG
      have qH : n ≤ 1000000000000000 := cH
      have qM : 0 < (m : Int) := by omega
      clear HF cS cG cH cM
      clear HV HA HIH HW
      go_enter Try.func72, Try.ntmps72
      go_wp2_with fail
      go_ret
      exact ⟨ret_bool E.out.symm, by go_grown⟩
    have HO : Aside (ownB 5 n s m = true) := ⟨by simp [ownB, -ByteArray.size_eq_zero_iff] at cS cG cH cM ⊢ <;> first | done | omega | simp_all⟩
    have qS : (s.size : Int) ≤ 0 := by omega
    have qG : 0 ≤ n := cG
    have qH : n ≤ 1000000000000000 := cH
    have qM : (m : Int) ≤ 0 := by omega
    clear HF cS cG cH cM
    go_enter Try.func72, Try.ntmps72
    go_wp2_with fail
    go_loopw [4] (fun i wr => ∃ j : Nat, j ≤ m ∧ i = .int .i64 j ∧ Aside (Blk wr w.heap.size 26 [.int .i64 5, .int .i64 n, .string s, .slice A1 m c1]) ∧ Aside (Below w.heap.size w wr) ∧ Aside (∀ (t : Nat) (h : t < ts.length), t < j → ts[t].right = true)) (fun i _ => m - (intOf i).toNat)
    case atStart => exact ⟨0, Nat.zero_le _, rfl, K0, B0, ⟨fun t _ h => absurd h (Nat.not_lt_zero _)⟩⟩
    case round =>
      obtain ⟨j, hj, rfl, hk0, hb0, hall⟩ := hrel
      clear K0 B0
      have y0 := hk0.out.cell 0
      have y3 := hk0.out.cell 3
      simp only [List.getElem?_cons_zero, List.getElem?_cons_succ] at y0 y3
      by_cases hlt : j < m
      · exfalso; omega
      · obtain rfl : j = m := by omega
        have HRA : Aside (∀ (t : Nat) (h : t < ts.length), ts[t].right = true) := ⟨fun t ht => hall.out t ht (by have := HN.out; omega)⟩
        have HV2 : Aside (res = (!decide ((5 : Int) = 7) || rising (evens ts))) := ⟨by rw [HV.out]; exact right_split _ _ _ _ (by rw [← HN.out]; exact HO.out) HRA.out⟩
        clear HV hall
        have E : Aside (res = true) := ⟨by rw [HV2.out]; rfl⟩
        go_wp2
        go_ret
        exact ⟨ret_bool E.out.symm, hb0.out⟩
  · by_cases cS : s.size = 0
    rotate_left
    · have E : Aside (res = false) := ⟨HF.out (by simp [ownB, -ByteArray.size_eq_zero_iff] at cS ⊢ <;> first | done | omega | simp_all)⟩
      have qS : 0 < (s.size : Int) := by omega
      clear HF cS
      clear HV HA HIH HW
      go_enter Try.func72, Try.ntmps72
      go_wp2_with fail
      go_ret
      exact ⟨ret_bool E.out.symm, by go_grown⟩
    by_cases cN : n = 0
    rotate_left
    · have E : Aside (res = false) := ⟨HF.out (by simp [ownB, -ByteArray.size_eq_zero_iff] at cS cN ⊢ <;> first | done | omega | simp_all)⟩
      have qS : (s.size : Int) ≤ 0 := by omega
      have qN : (n != 0) = true := by simpa using cN
      clear HF cS cN
      clear HV HA HIH HW
      go_enter Try.func72, Try.ntmps72
      go_wp2_with fail
      go_ret
      exact ⟨ret_bool E.out.symm, by go_grown⟩
    have HO : Aside (ownB 6 n s m = true) := ⟨by simp [ownB, -ByteArray.size_eq_zero_iff] at cS cN ⊢ <;> first | done | omega | simp_all⟩
    have qS : (s.size : Int) ≤ 0 := by omega
    have qN : (n != 0) = false := by simpa using cN
    clear HF cS cN
    go_enter Try.func72, Try.ntmps72
    go_wp2_with fail
    go_loopw [4] (fun i wr => ∃ j : Nat, j ≤ m ∧ i = .int .i64 j ∧ Aside (Blk wr w.heap.size 26 [.int .i64 6, .int .i64 n, .string s, .slice A1 m c1]) ∧ Aside (Below w.heap.size w wr) ∧ Aside (∀ (t : Nat) (h : t < ts.length), t < j → ts[t].right = true)) (fun i _ => m - (intOf i).toNat)
    case atStart => exact ⟨0, Nat.zero_le _, rfl, K0, B0, ⟨fun t _ h => absurd h (Nat.not_lt_zero _)⟩⟩
    case round =>
      obtain ⟨j, hj, rfl, hk0, hb0, hall⟩ := hrel
      clear K0 B0
      have y0 := hk0.out.cell 0
      have y3 := hk0.out.cell 3
      simp only [List.getElem?_cons_zero, List.getElem?_cons_succ] at y0 y3
      by_cases hlt : j < m
      · have hlt1 : j < ts.length := by rw [← HN.out]; exact hlt
        rcases HA.out with h0 | ⟨b1, o1, rfl, hb1, f1, hf1, -, hrow1⟩
        · exfalso; rw [h0] at hlt1; exact absurd hlt1 (Nat.not_lt_zero _)
        obtain ⟨cs1, hr1, hc1⟩ := hrow1 j hlt1
        obtain ⟨x0, x1, x2, x3a, x3b, x3c, rfl⟩ := shapeTerm hr1
        have hbel2 := hb0.out
        have d10 : wr.cell? ⟨b1, o1 + j * 4, none⟩ = some (.int .i64 x0) := (hbel2.cell (p := ⟨b1, o1 + j * 4 + 0, none⟩) hb1).trans (hc1 0 (by decide))
        have d11 : wr.cell? ⟨b1, o1 + j * 4 + 1, none⟩ = some (.int .i64 x1) := (hbel2.cell (p := ⟨b1, o1 + j * 4 + 1, none⟩) hb1).trans (hc1 1 (by decide))
        have d12 : wr.cell? ⟨b1, o1 + j * 4 + 2, none⟩ = some (.string x2) := (hbel2.cell (p := ⟨b1, o1 + j * 4 + 2, none⟩) hb1).trans (hc1 2 (by decide))
        have d13 : wr.cell? ⟨b1, o1 + j * 4 + 3, none⟩ = some (.slice x3a x3b x3c) := (hbel2.cell (p := ⟨b1, o1 + j * 4 + 3, none⟩) hb1).trans (hc1 3 (by decide))
        have HR1 := Aside.mk (Rec.term.up (Rec.term.mono hr1 (fun c hc => (hf1 j c hc).1)) (fun _ h => h) hbel2)
        have W1 := HW.out j hlt1
        clear hc1 hrow1 hf1 hr1 hbel2
        go_wp2_with fail
        refine (HIH.out ts[j] (List.getElem_mem hlt1) [.int .i64 x0, .int .i64 x1, .string x2, .slice x3a x3b x3c] _ HR1.out W1).mono ?_
        rintro e w2 ⟨rfl, hb2⟩
        have hk2 := Aside.mk (hk0.out.below hb2)
        have hb3 := Aside.mk (below_later hb0.out hb2)
        clear d10 d11 d12 d13 HR1 hb2 hk0 hb0 y0 y3
        cases hR : ts[j].right
        · have E : Aside (res = false) := ⟨by rw [HV.out]; exact right_kid _ _ _ _ j hlt1 hR⟩
          go_wp2
          go_ret
          exact ⟨ret_bool E.out.symm, hb3.out⟩
        have hall2 : Aside (∀ (t : Nat) (h : t < ts.length), t < j + 1 → ts[t].right = true) := ⟨fun t ht htj => by
          by_cases e : t = j
          · subst e; exact hR
          · exact hall.out t ht (by omega)⟩
        clear hall hR
        go_wp2_with fail
        go_roundw
        case rel => exact ⟨j + 1, by omega, by go_num, hk2, hb3, hall2⟩
        case measure => first | (simp [intOf]; done) | (simp [intOf]; omega)
      · obtain rfl : j = m := by omega
        have HRA : Aside (∀ (t : Nat) (h : t < ts.length), ts[t].right = true) := ⟨fun t ht => hall.out t ht (by have := HN.out; omega)⟩
        have HV2 : Aside (res = (!decide ((6 : Int) = 7) || rising (evens ts))) := ⟨by rw [HV.out]; exact right_split _ _ _ _ (by rw [← HN.out]; exact HO.out) HRA.out⟩
        clear HV hall
        have E : Aside (res = true) := ⟨by rw [HV2.out]; rfl⟩
        go_wp2
        go_ret
        exact ⟨ret_bool E.out.symm, hb0.out⟩
  · by_cases cS : s.size = 0
    rotate_left
    · have E : Aside (res = false) := ⟨HF.out (by simp [ownB, -ByteArray.size_eq_zero_iff] at cS ⊢ <;> first | done | omega | simp_all)⟩
      have qS : 0 < (s.size : Int) := by omega
      clear HF cS
      clear HV HA HIH HW
      go_enter Try.func72, Try.ntmps72
      go_wp2_with fail
      go_ret
      exact ⟨ret_bool E.out.symm, by go_grown⟩
    by_cases cN : n = 0
    rotate_left
    · have E : Aside (res = false) := ⟨HF.out (by simp [ownB, -ByteArray.size_eq_zero_iff] at cS cN ⊢ <;> first | done | omega | simp_all)⟩
      have qS : (s.size : Int) ≤ 0 := by omega
      have qN : (n != 0) = true := by simpa using cN
      clear HF cS cN
      clear HV HA HIH HW
      go_enter Try.func72, Try.ntmps72
      go_wp2_with fail
      go_ret
      exact ⟨ret_bool E.out.symm, by go_grown⟩
    by_cases cE : m % 2 = 0
    rotate_left
    · have E : Aside (res = false) := ⟨HF.out (by simp [ownB, -ByteArray.size_eq_zero_iff] at cS cN cE ⊢ <;> first | done | omega | simp_all)⟩
      have qS : (s.size : Int) ≤ 0 := by omega
      have qN : (n != 0) = false := by simpa using cN
      have qE0 : (m : Int).tmod 2 = (m : Int) % 2 := Int.tmod_eq_emod_of_nonneg (by omega)
      have qE : ((m : Int) % 2 != 0) = true := by simp; omega
      have qE2 : (m : Int) % 2 = 1 := by omega
      clear HF cS cN cE
      clear HV HA HIH HW
      go_enter Try.func72, Try.ntmps72
      go_wp2_with fail
      go_ret
      exact ⟨ret_bool E.out.symm, by go_grown⟩
    have HO : Aside (ownB 7 n s m = true) := ⟨by simp [ownB, -ByteArray.size_eq_zero_iff] at cS cN cE ⊢ <;> first | done | omega | simp_all⟩
    have qS : (s.size : Int) ≤ 0 := by omega
    have qN : (n != 0) = false := by simpa using cN
    have qE0 : (m : Int).tmod 2 = (m : Int) % 2 := Int.tmod_eq_emod_of_nonneg (by omega)
    have qE : ((m : Int) % 2 != 0) = false := by simp; omega
    have qE2 : (m : Int) % 2 = 0 := by omega
    clear HF cS cN cE
    go_enter Try.func72, Try.ntmps72
    go_wp2_with fail
    go_loopw [4] (fun i wr => ∃ j : Nat, j ≤ m ∧ i = .int .i64 j ∧ Aside (Blk wr w.heap.size 26 [.int .i64 7, .int .i64 n, .string s, .slice A1 m c1]) ∧ Aside (Below w.heap.size w wr) ∧ Aside (∀ (t : Nat) (h : t < ts.length), t < j → ts[t].right = true)) (fun i _ => m - (intOf i).toNat)
    case atStart => exact ⟨0, Nat.zero_le _, rfl, K0, B0, ⟨fun t _ h => absurd h (Nat.not_lt_zero _)⟩⟩
    case round =>
      obtain ⟨j, hj, rfl, hk0, hb0, hall⟩ := hrel
      clear K0 B0
      have y0 := hk0.out.cell 0
      have y3 := hk0.out.cell 3
      simp only [List.getElem?_cons_zero, List.getElem?_cons_succ] at y0 y3
      by_cases hlt : j < m
      · have hlt1 : j < ts.length := by rw [← HN.out]; exact hlt
        rcases HA.out with h0 | ⟨b1, o1, rfl, hb1, f1, hf1, -, hrow1⟩
        · exfalso; rw [h0] at hlt1; exact absurd hlt1 (Nat.not_lt_zero _)
        obtain ⟨cs1, hr1, hc1⟩ := hrow1 j hlt1
        obtain ⟨x0, x1, x2, x3a, x3b, x3c, rfl⟩ := shapeTerm hr1
        have hbel2 := hb0.out
        have d10 : wr.cell? ⟨b1, o1 + j * 4, none⟩ = some (.int .i64 x0) := (hbel2.cell (p := ⟨b1, o1 + j * 4 + 0, none⟩) hb1).trans (hc1 0 (by decide))
        have d11 : wr.cell? ⟨b1, o1 + j * 4 + 1, none⟩ = some (.int .i64 x1) := (hbel2.cell (p := ⟨b1, o1 + j * 4 + 1, none⟩) hb1).trans (hc1 1 (by decide))
        have d12 : wr.cell? ⟨b1, o1 + j * 4 + 2, none⟩ = some (.string x2) := (hbel2.cell (p := ⟨b1, o1 + j * 4 + 2, none⟩) hb1).trans (hc1 2 (by decide))
        have d13 : wr.cell? ⟨b1, o1 + j * 4 + 3, none⟩ = some (.slice x3a x3b x3c) := (hbel2.cell (p := ⟨b1, o1 + j * 4 + 3, none⟩) hb1).trans (hc1 3 (by decide))
        have HR1 := Aside.mk (Rec.term.up (Rec.term.mono hr1 (fun c hc => (hf1 j c hc).1)) (fun _ h => h) hbel2)
        have W1 := HW.out j hlt1
        clear hc1 hrow1 hf1 hr1 hbel2
        go_wp2_with fail
        refine (HIH.out ts[j] (List.getElem_mem hlt1) [.int .i64 x0, .int .i64 x1, .string x2, .slice x3a x3b x3c] _ HR1.out W1).mono ?_
        rintro e w2 ⟨rfl, hb2⟩
        have hk2 := Aside.mk (hk0.out.below hb2)
        have hb3 := Aside.mk (below_later hb0.out hb2)
        clear d10 d11 d12 d13 HR1 hb2 hk0 hb0 y0 y3
        cases hR : ts[j].right
        · have E : Aside (res = false) := ⟨by rw [HV.out]; exact right_kid _ _ _ _ j hlt1 hR⟩
          go_wp2
          go_ret
          exact ⟨ret_bool E.out.symm, hb3.out⟩
        have hall2 : Aside (∀ (t : Nat) (h : t < ts.length), t < j + 1 → ts[t].right = true) := ⟨fun t ht htj => by
          by_cases e : t = j
          · subst e; exact hR
          · exact hall.out t ht (by omega)⟩
        clear hall hR
        go_wp2_with fail
        go_roundw
        case rel => exact ⟨j + 1, by omega, by go_num, hk2, hb3, hall2⟩
        case measure => first | (simp [intOf]; done) | (simp [intOf]; omega)
      · obtain rfl : j = m := by omega
        have HRA : Aside (∀ (t : Nat) (h : t < ts.length), ts[t].right = true) := ⟨fun t ht => hall.out t ht (by have := HN.out; omega)⟩
        have HV2 : Aside (res = (!decide ((7 : Int) = 7) || rising (evens ts))) := ⟨by rw [HV.out]; exact right_split _ _ _ _ (by rw [← HN.out]; exact HO.out) HRA.out⟩
        clear HV hall
        have HV3 : Aside (res = rising (evens (ts.drop (2 - 2)))) := ⟨by rw [HV2.out]; rfl⟩
        clear HV2
        go_wp2_with fail
        obtain ⟨w0, rfl⟩ : ∃ w0, w0 = wr := ⟨_, rfl⟩
        go_loopw [5] (fun i wr => ∃ q : Nat, 2 ≤ q ∧ q ≤ j + 2 ∧ i = .int .i64 q ∧ Aside (Blk wr w.heap.size 26 [.int .i64 7, .int .i64 n, .string s, .slice A1 j c1]) ∧ Aside (Below w.heap.size w wr) ∧ Aside (res = rising (evens (ts.drop (q - 2))))) (fun i _ => j + 4 - (intOf i).toNat)
        case atStart => exact ⟨2, by omega, by omega, rfl, hk0, hb0, HV3⟩
        case round =>
          obtain ⟨q, hq2, hq, rfl, hj0, hbel, hv⟩ := hrel
          clear hk0 hb0 HV3 y0 y3
          have z3 := hj0.out.cell 3
          simp only [List.getElem?_cons_zero, List.getElem?_cons_succ] at z3
          by_cases hlq : q < j
          · have hlt1 : q < ts.length := by rw [← HN.out]; exact hlq
            have hlt0 : q - 2 < ts.length := by omega
            rcases HA.out with h0 | ⟨b1, o1, rfl, hb1, f1, hf1, -, hrow1⟩
            · exfalso; rw [h0] at hlt1; exact absurd hlt1 (Nat.not_lt_zero _)
            obtain ⟨cs1, hr1, hc1⟩ := hrow1 (q - 2) hlt0
            obtain ⟨x0, x1, x2, x3a, x3b, x3c, rfl⟩ := shapeTerm hr1
            obtain ⟨cs2, hr2, hc2⟩ := hrow1 q hlt1
            obtain ⟨y0, y1, y2, y3a, y3b, y3c, rfl⟩ := shapeTerm hr2
            have hbel2 := hbel.out
            have d10 : wr.cell? ⟨b1, o1 + (q - 2) * 4, none⟩ = some (.int .i64 x0) := (hbel2.cell (p := ⟨b1, o1 + (q - 2) * 4 + 0, none⟩) hb1).trans (hc1 0 (by decide))
            have d11 : wr.cell? ⟨b1, o1 + (q - 2) * 4 + 1, none⟩ = some (.int .i64 x1) := (hbel2.cell (p := ⟨b1, o1 + (q - 2) * 4 + 1, none⟩) hb1).trans (hc1 1 (by decide))
            have d12 : wr.cell? ⟨b1, o1 + (q - 2) * 4 + 2, none⟩ = some (.string x2) := (hbel2.cell (p := ⟨b1, o1 + (q - 2) * 4 + 2, none⟩) hb1).trans (hc1 2 (by decide))
            have d13 : wr.cell? ⟨b1, o1 + (q - 2) * 4 + 3, none⟩ = some (.slice x3a x3b x3c) := (hbel2.cell (p := ⟨b1, o1 + (q - 2) * 4 + 3, none⟩) hb1).trans (hc1 3 (by decide))
            have d20 : wr.cell? ⟨b1, o1 + q * 4, none⟩ = some (.int .i64 y0) := (hbel2.cell (p := ⟨b1, o1 + q * 4 + 0, none⟩) hb1).trans (hc2 0 (by decide))
            have d21 : wr.cell? ⟨b1, o1 + q * 4 + 1, none⟩ = some (.int .i64 y1) := (hbel2.cell (p := ⟨b1, o1 + q * 4 + 1, none⟩) hb1).trans (hc2 1 (by decide))
            have d22 : wr.cell? ⟨b1, o1 + q * 4 + 2, none⟩ = some (.string y2) := (hbel2.cell (p := ⟨b1, o1 + q * 4 + 2, none⟩) hb1).trans (hc2 2 (by decide))
            have d23 : wr.cell? ⟨b1, o1 + q * 4 + 3, none⟩ = some (.slice y3a y3b y3c) := (hbel2.cell (p := ⟨b1, o1 + q * 4 + 3, none⟩) hb1).trans (hc2 3 (by decide))
            have HR1 := Aside.mk (Rec.term.up (w1 := wr.drew) (Rec.term.mono hr1 (fun c hc => (hf1 (q - 2) c hc).1)) (fun _ h => h) hbel2.drew)
            have HR2 := Aside.mk (Rec.term.up (w1 := wr.drew) (Rec.term.mono hr2 (fun c hc => (hf1 q c hc).1)) (fun _ h => h) hbel2.drew)
            have hst := Aside.mk (rising_step ts q hq2 hlt1)
            have W1 := HW.out (q - 2) hlt0
            have W2 := HW.out q hlt1
            have g1 := HRA.out (q - 2) hlt0
            have g2 := HRA.out q hlt1
            have u1 : ((q : Int) - 2).toNat = q - 2 := by omega
            have u2 : (0 : Int) ≤ (q : Int) - 2 := by omega
            have u3 : (q : Int) - 2 < j := by omega
            have u5 : (2 : Int) ≤ q := by omega
            have u4 : IntKind.i64.wrap ((q : Int) - 2) = (q : Int) - 2 := by rw [IntKind.wrap_i64]; omega
            clear hc1 hrow1 hf1 hr1 hc2 hr2 hbel2
            go_wp2_with fail
            go_still_tail 11, (by kernel_rfl)
            change wpList _ _ _ _ _ wr.drew
            go_wp2_with fail
            refine (l01Cmp ts[q - 2] ts[q] [.int .i64 x0, .int .i64 x1, .string x2, .slice x3a x3b x3c] [.int .i64 y0, .int .i64 y1, .string y2, .slice y3a y3b y3c] _ HR1.out HR2.out W1 W2).mono ?_
            rintro e w2 ⟨rfl, hb3⟩
            have hb4 := Aside.mk (below_later hbel.out.drew hb3)
            have hj2 := Aside.mk (hj0.out.drew.below hb3)
            clear d10 d11 d12 d13 d20 d21 d22 d23 HR1 HR2 hb3 hbel z3 hj0
            by_cases h0 : T.cmp ts[q - 2] ts[q] < 0
            · have hv2 : Aside (res = rising (evens (ts.drop (q + 2 - 2)))) := ⟨by rw [hv.out, hst.out, decide_eq_true h0]; rfl⟩
              generalize T.cmp ts[q - 2] ts[q] = c at h0 ⊢
              clear hst hv W1 W2 g1 g2 u1 u2 u3 u4 u5
              go_wp2_with fail
              go_roundw
              case rel => exact ⟨q + 2, by omega, by omega, by go_num, hj2, hb4, hv2⟩
              case measure => first | (simp [intOf]; done) | (simp [intOf]; omega)
            · have hv2 : Aside (res = false) := ⟨by rw [hv.out, hst.out, decide_eq_false h0]; rfl⟩
              generalize T.cmp ts[q - 2] ts[q] = c at h0 ⊢
              have h1 : 0 ≤ c := by omega
              clear hst hv h0
              go_wp2_with fail
              go_ret
              exact ⟨ret_bool hv2.out.symm, hb4.out⟩
          · have hE : Aside (res = true) := ⟨by rw [hv.out]; exact rising_end ts q (by have := HN.out; omega)⟩
            clear hv
            go_wp2_with fail
            go_ret
            exact ⟨ret_bool hE.out.symm, hbel.out⟩
  · by_cases cS : s.size = 0
    rotate_left
    · have E : Aside (res = false) := ⟨HF.out (by simp [ownB, -ByteArray.size_eq_zero_iff] at cS ⊢ <;> first | done | omega | simp_all)⟩
      have qS : 0 < (s.size : Int) := by omega
      clear HF cS
      clear HV HA HIH HW
      go_enter Try.func72, Try.ntmps72
      go_wp2_with fail
      go_ret
      exact ⟨ret_bool E.out.symm, by go_grown⟩
    by_cases cN : n = 0
    rotate_left
    · have E : Aside (res = false) := ⟨HF.out (by simp [ownB, -ByteArray.size_eq_zero_iff] at cS cN ⊢ <;> first | done | omega | simp_all)⟩
      have qS : (s.size : Int) ≤ 0 := by omega
      have qN : (n != 0) = true := by simpa using cN
      clear HF cS cN
      clear HV HA HIH HW
      go_enter Try.func72, Try.ntmps72
      go_wp2_with fail
      go_ret
      exact ⟨ret_bool E.out.symm, by go_grown⟩
    have HO : Aside (ownB 8 n s m = true) := ⟨by simp [ownB, -ByteArray.size_eq_zero_iff] at cS cN ⊢ <;> first | done | omega | simp_all⟩
    have qS : (s.size : Int) ≤ 0 := by omega
    have qN : (n != 0) = false := by simpa using cN
    clear HF cS cN
    go_enter Try.func72, Try.ntmps72
    go_wp2_with fail
    go_loopw [4] (fun i wr => ∃ j : Nat, j ≤ m ∧ i = .int .i64 j ∧ Aside (Blk wr w.heap.size 26 [.int .i64 8, .int .i64 n, .string s, .slice A1 m c1]) ∧ Aside (Below w.heap.size w wr) ∧ Aside (∀ (t : Nat) (h : t < ts.length), t < j → ts[t].right = true)) (fun i _ => m - (intOf i).toNat)
    case atStart => exact ⟨0, Nat.zero_le _, rfl, K0, B0, ⟨fun t _ h => absurd h (Nat.not_lt_zero _)⟩⟩
    case round =>
      obtain ⟨j, hj, rfl, hk0, hb0, hall⟩ := hrel
      clear K0 B0
      have y0 := hk0.out.cell 0
      have y3 := hk0.out.cell 3
      simp only [List.getElem?_cons_zero, List.getElem?_cons_succ] at y0 y3
      by_cases hlt : j < m
      · have hlt1 : j < ts.length := by rw [← HN.out]; exact hlt
        rcases HA.out with h0 | ⟨b1, o1, rfl, hb1, f1, hf1, -, hrow1⟩
        · exfalso; rw [h0] at hlt1; exact absurd hlt1 (Nat.not_lt_zero _)
        obtain ⟨cs1, hr1, hc1⟩ := hrow1 j hlt1
        obtain ⟨x0, x1, x2, x3a, x3b, x3c, rfl⟩ := shapeTerm hr1
        have hbel2 := hb0.out
        have d10 : wr.cell? ⟨b1, o1 + j * 4, none⟩ = some (.int .i64 x0) := (hbel2.cell (p := ⟨b1, o1 + j * 4 + 0, none⟩) hb1).trans (hc1 0 (by decide))
        have d11 : wr.cell? ⟨b1, o1 + j * 4 + 1, none⟩ = some (.int .i64 x1) := (hbel2.cell (p := ⟨b1, o1 + j * 4 + 1, none⟩) hb1).trans (hc1 1 (by decide))
        have d12 : wr.cell? ⟨b1, o1 + j * 4 + 2, none⟩ = some (.string x2) := (hbel2.cell (p := ⟨b1, o1 + j * 4 + 2, none⟩) hb1).trans (hc1 2 (by decide))
        have d13 : wr.cell? ⟨b1, o1 + j * 4 + 3, none⟩ = some (.slice x3a x3b x3c) := (hbel2.cell (p := ⟨b1, o1 + j * 4 + 3, none⟩) hb1).trans (hc1 3 (by decide))
        have HR1 := Aside.mk (Rec.term.up (Rec.term.mono hr1 (fun c hc => (hf1 j c hc).1)) (fun _ h => h) hbel2)
        have W1 := HW.out j hlt1
        clear hc1 hrow1 hf1 hr1 hbel2
        go_wp2_with fail
        refine (HIH.out ts[j] (List.getElem_mem hlt1) [.int .i64 x0, .int .i64 x1, .string x2, .slice x3a x3b x3c] _ HR1.out W1).mono ?_
        rintro e w2 ⟨rfl, hb2⟩
        have hk2 := Aside.mk (hk0.out.below hb2)
        have hb3 := Aside.mk (below_later hb0.out hb2)
        clear d10 d11 d12 d13 HR1 hb2 hk0 hb0 y0 y3
        cases hR : ts[j].right
        · have E : Aside (res = false) := ⟨by rw [HV.out]; exact right_kid _ _ _ _ j hlt1 hR⟩
          go_wp2
          go_ret
          exact ⟨ret_bool E.out.symm, hb3.out⟩
        have hall2 : Aside (∀ (t : Nat) (h : t < ts.length), t < j + 1 → ts[t].right = true) := ⟨fun t ht htj => by
          by_cases e : t = j
          · subst e; exact hR
          · exact hall.out t ht (by omega)⟩
        clear hall hR
        go_wp2_with fail
        go_roundw
        case rel => exact ⟨j + 1, by omega, by go_num, hk2, hb3, hall2⟩
        case measure => first | (simp [intOf]; done) | (simp [intOf]; omega)
      · obtain rfl : j = m := by omega
        have HRA : Aside (∀ (t : Nat) (h : t < ts.length), ts[t].right = true) := ⟨fun t ht => hall.out t ht (by have := HN.out; omega)⟩
        have HV2 : Aside (res = (!decide ((8 : Int) = 7) || rising (evens ts))) := ⟨by rw [HV.out]; exact right_split _ _ _ _ (by rw [← HN.out]; exact HO.out) HRA.out⟩
        clear HV hall
        have E : Aside (res = true) := ⟨by rw [HV2.out]; rfl⟩
        go_wp2
        go_ret
        exact ⟨ret_bool E.out.symm, hb0.out⟩
  · by_cases cN : n = 0
    rotate_left
    · have E : Aside (res = false) := ⟨HF.out (by simp [ownB, -ByteArray.size_eq_zero_iff] at cN ⊢ <;> first | done | omega | simp_all)⟩
      have qN : (n != 0) = true := by simpa using cN
      clear HF cN
      clear HV HA HIH HW
      go_enter Try.func72, Try.ntmps72
      go_wp2_with fail
      go_ret
      exact ⟨ret_bool E.out.symm, by go_grown⟩
    by_cases cZ : s.size ≤ 4000
    rotate_left
    · have E : Aside (res = false) := ⟨HF.out (by simp [ownB, -ByteArray.size_eq_zero_iff] at cN cZ ⊢ <;> first | done | omega | simp_all)⟩
      have qN : (n != 0) = false := by simpa using cN
      have qZ : (4000 : Int) < s.size := by omega
      clear HF cN cZ
      clear HV HA HIH HW
      go_enter Try.func72, Try.ntmps72
      go_wp2_with fail
      go_ret
      exact ⟨ret_bool E.out.symm, by go_grown⟩
    by_cases cM : m = 0
    rotate_left
    · have E : Aside (res = false) := ⟨HF.out (by simp [ownB, -ByteArray.size_eq_zero_iff] at cN cZ cM ⊢ <;> first | done | omega | simp_all)⟩
      have qN : (n != 0) = false := by simpa using cN
      have qZ : (s.size : Int) ≤ 4000 := by omega
      have qM : 0 < (m : Int) := by omega
      clear HF cN cZ cM
      clear HV HA HIH HW
      go_enter Try.func72, Try.ntmps72
      go_wp2_with fail
      go_ret
      exact ⟨ret_bool E.out.symm, by go_grown⟩
    have HO : Aside (ownB 9 n s m = true) := ⟨by simp [ownB, -ByteArray.size_eq_zero_iff] at cN cZ cM ⊢ <;> first | done | omega | simp_all⟩
    have qN : (n != 0) = false := by simpa using cN
    have qZ : (s.size : Int) ≤ 4000 := by omega
    have qM : (m : Int) ≤ 0 := by omega
    clear HF cN cZ cM
    go_enter Try.func72, Try.ntmps72
    go_wp2_with fail
    go_loopw [4] (fun i wr => ∃ j : Nat, j ≤ m ∧ i = .int .i64 j ∧ Aside (Blk wr w.heap.size 26 [.int .i64 9, .int .i64 n, .string s, .slice A1 m c1]) ∧ Aside (Below w.heap.size w wr) ∧ Aside (∀ (t : Nat) (h : t < ts.length), t < j → ts[t].right = true)) (fun i _ => m - (intOf i).toNat)
    case atStart => exact ⟨0, Nat.zero_le _, rfl, K0, B0, ⟨fun t _ h => absurd h (Nat.not_lt_zero _)⟩⟩
    case round =>
      obtain ⟨j, hj, rfl, hk0, hb0, hall⟩ := hrel
      clear K0 B0
      have y0 := hk0.out.cell 0
      have y3 := hk0.out.cell 3
      simp only [List.getElem?_cons_zero, List.getElem?_cons_succ] at y0 y3
      by_cases hlt : j < m
      · exfalso; omega
      · obtain rfl : j = m := by omega
        have HRA : Aside (∀ (t : Nat) (h : t < ts.length), ts[t].right = true) := ⟨fun t ht => hall.out t ht (by have := HN.out; omega)⟩
        have HV2 : Aside (res = (!decide ((9 : Int) = 7) || rising (evens ts))) := ⟨by rw [HV.out]; exact right_split _ _ _ _ (by rw [← HN.out]; exact HO.out) HRA.out⟩
        clear HV hall
        have E : Aside (res = true) := ⟨by rw [HV2.out]; rfl⟩
        go_wp2
        go_ret
        exact ⟨ret_bool E.out.symm, hb0.out⟩
end Go.Proofs.Ytdldgchkinflmaa.Fn
