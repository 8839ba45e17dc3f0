/- Walk of ownOK. Conditions: those of each theorem. -/
import Derived.Test.YtdldgchkinflmaaTm6
import Derived.BigQuiet
import Derived.Deep.QuietTactic
set_option linter.unusedVariables false
namespace Go.Proofs.Ytdldgchkinflmaa.Fn
open Go.RowKit Go.Proofs.Ytdldgchkinflmaa.Lib Go.Proofs.Ytdldgchkinflmaa.Plan

theorem inInt (n : Int) (w : World) : Calls Try.prog 236 #[.int .i64 n] w fun e w' => e = .returned (.bool (decide (-1000000000000000 ≤ n) && decide (n ≤ 1000000000000000))) ∧ w = w' := by
  by_cases h1 : -1000000000000000 ≤ n
  · by_cases h2 : n ≤ 1000000000000000
    · go_enter Try.func236, Try.ntmps236
      go_wp2
      go_ret
      exact ⟨ret_bool (by simp [h1, h2]), rfl⟩
    · go_enter Try.func236, Try.ntmps236
      go_wp2
      go_ret
      exact ⟨ret_bool (by simp [h2]), rfl⟩
  · go_enter Try.func236, Try.ntmps236
    go_wp2
    go_ret
    exact ⟨ret_bool (by simp; omega), rfl⟩
theorem bel_box (w : World) (o : Obj) (n : Nat) : Below w.heap.size w ((w.alloc o).drewN n) :=
  have h := (Below.refl w.heap.size w).alloc (Nat.le_refl _) o
  ⟨h.os, h.tape, h.output, h.size, h.block⟩
theorem own_other {k n : Int} {s : ByteArray} {m : Nat} (h : ¬ (k = 1 ∨ k = 2 ∨ k = 3 ∨ k = 4 ∨ k = 5 ∨ k = 6 ∨ k = 7 ∨ k = 8 ∨ k = 9)) : ownB k n s m = false := by
  cases hb : ownB k n s m with
  | false => rfl
  | true => exact absurd (own_kind hb) h
set_option maxRecDepth 100000 in
set_option maxHeartbeats 40000000 in
theorem ownOK (k n : Int) (s : ByteArray) (A : Option Addr) (m c : Nat) (w : World) (hs : s.size ≤ 9223372036854775807) (hm : m ≤ 1048576) :
    Calls Try.prog 222 #[.agg #[.int .i64 k, .int .i64 n, .string s, .slice A m c]] w fun e w' => e = .returned (.bool (ownB k n s m)) ∧ Below w.heap.size w w' := by
  obtain ⟨res, hres⟩ : ∃ r, r = ownB k n s m := ⟨_, rfl⟩
  rw [← hres]
  have HV := Aside.mk hres
  have SZ : s.size = 0 ∨ s.size ≠ 0 := by omega
  have NZ : n = 0 ∨ n ≠ 0 := by omega
  have MZ : m = 0 ∨ 0 < m := by omega
  have hother : (k = 1 ∨ k = 2 ∨ k = 3 ∨ k = 4 ∨ k = 5 ∨ k = 6 ∨ k = 7 ∨ k = 8 ∨ k = 9) ∨ ¬ (k = 1 ∨ k = 2 ∨ k = 3 ∨ k = 4 ∨ k = 5 ∨ k = 6 ∨ k = 7 ∨ k = 8 ∨ k = 9) := Classical.em _
  rcases hother with hk | hk
  rotate_left
  · have E : Aside (res = false) := ⟨by rw [hres, own_other hk]⟩
    have q1 : (k == 1) = false := by simp; omega
    have q2 : (k == 2) = false := by simp; omega
    have q3 : (k == 3) = false := by simp; omega
    have q4 : (k == 4) = false := by simp; omega
    have q5 : (k == 5) = false := by simp; omega
    have q6 : (k == 6) = false := by simp; omega
    have q7 : (k == 7) = false := by simp; omega
    have q8 : (k == 8) = false := by simp; omega
    have q9 : (k == 9) = false := by simp; omega
    clear hk HV hres SZ NZ MZ
    go_enter Try.func222, Try.ntmps222
    go_wp2_with fail
    go_quiet (fail)
    go_wp2_with fail
    go_ret
    exact ⟨ret_bool E.out.symm, bel_box w _ _⟩
  clear hres
  rcases hk with rfl | rfl | rfl | rfl | rfl | rfl | rfl | rfl | rfl
  · cases cI : (decide (-1000000000000000 ≤ n) && decide (n ≤ 1000000000000000))
    · have E : Aside (res = false) := ⟨by rw [HV.out]; simp [ownB, -ByteArray.size_eq_zero_iff] at cI ⊢ <;> first | done | omega | simp_all⟩
      have HI : Aside ((decide (-1000000000000000 ≤ n) && decide (n ≤ 1000000000000000)) = false) := ⟨cI⟩
      clear HV SZ NZ MZ cI
      go_enter Try.func222, Try.ntmps222
      go_wp2_with fail
      go_quiet (fail)
      go_wp2_with (go_at_call 236; refine (inInt n _).mono ?_; rintro e w' ⟨rfl, rfl⟩; rw [HI.out])
      go_ret
      exact ⟨ret_bool E.out.symm, bel_box w _ _⟩
    by_cases cS : s.size = 0
    rotate_left
    · have E : Aside (res = false) := ⟨by rw [HV.out]; simp [ownB, -ByteArray.size_eq_zero_iff] at cI cS ⊢ <;> first | done | omega | simp_all⟩
      have HI : Aside ((decide (-1000000000000000 ≤ n) && decide (n ≤ 1000000000000000)) = true) := ⟨cI⟩
      have qS : (s.toList == []) = false := by
        rw [beq_eq_false_iff_ne, ByteArray.toList_eq]
        intro h
        apply cS
        change s.data.toList.length = 0
        rw [h]; rfl
      clear HV SZ NZ MZ cI cS
      go_enter Try.func222, Try.ntmps222
      go_wp2_with fail
      go_quiet (fail)
      go_wp2_with (go_at_call 236; refine (inInt n _).mono ?_; rintro e w' ⟨rfl, rfl⟩; rw [HI.out])
      go_ret
      exact ⟨ret_bool E.out.symm, bel_box w _ _⟩
    by_cases cM : m = 0
    rotate_left
    · have E : Aside (res = false) := ⟨by rw [HV.out]; simp [ownB, -ByteArray.size_eq_zero_iff] at cI cS cM ⊢ <;> first | done | omega | simp_all⟩
      have HI : Aside ((decide (-1000000000000000 ≤ n) && decide (n ≤ 1000000000000000)) = true) := ⟨cI⟩
      obtain rfl : s = ⟨#[]⟩ := size0 cS rfl
      have qM : 0 < m := by omega
      clear HV SZ NZ MZ cI cS cM
      go_enter Try.func222, Try.ntmps222
      go_wp2_with fail
      go_quiet (fail)
      go_wp2_with (go_at_call 236; refine (inInt n _).mono ?_; rintro e w' ⟨rfl, rfl⟩; rw [HI.out])
      go_ret
      exact ⟨ret_bool E.out.symm, bel_box w _ _⟩
    have E : Aside (res = true) := ⟨by rw [HV.out]; simp [ownB, -ByteArray.size_eq_zero_iff] at cI cS cM ⊢ <;> first | done | omega | simp_all⟩
    have HI : Aside ((decide (-1000000000000000 ≤ n) && decide (n ≤ 1000000000000000)) = true) := ⟨cI⟩
    obtain rfl : s = ⟨#[]⟩ := size0 cS rfl
    subst cM
    clear HV SZ NZ MZ cI cS
    go_enter Try.func222, Try.ntmps222
    go_wp2_with fail
    go_quiet (fail)
    go_wp2_with (go_at_call 236; refine (inInt n _).mono ?_; rintro e w' ⟨rfl, rfl⟩; rw [HI.out])
    go_ret
    exact ⟨ret_bool E.out.symm, bel_box w _ _⟩
  · cases cB : (nameB s)
    · have E : Aside (res = false) := ⟨by rw [HV.out]; simp [ownB, -ByteArray.size_eq_zero_iff] at cB ⊢ <;> first | done | omega | simp_all⟩
      have HB : Aside (nameB s = false) := ⟨cB⟩
      clear HV SZ NZ MZ cB
      go_enter Try.func222, Try.ntmps222
      go_wp2_with fail
      go_quiet (fail)
      go_wp2_with (go_at_call 175; refine (nameOK s _ hs).mono ?_; rintro e w' ⟨rfl, rfl⟩; rw [HB.out])
      go_ret
      exact ⟨ret_bool E.out.symm, bel_box w _ _⟩
    by_cases cN : n = 0
    rotate_left
    · have E : Aside (res = false) := ⟨by rw [HV.out]; simp [ownB, -ByteArray.size_eq_zero_iff] at cB cN ⊢ <;> first | done | omega | simp_all⟩
      have HB : Aside (nameB s = true) := ⟨cB⟩
      have qN : (n != 0) = true := by simpa using cN
      clear HV SZ NZ MZ cB cN
      go_enter Try.func222, Try.ntmps222
      go_wp2_with fail
      go_quiet (fail)
      go_wp2_with (go_at_call 175; refine (nameOK s _ hs).mono ?_; rintro e w' ⟨rfl, rfl⟩; rw [HB.out])
      go_ret
      exact ⟨ret_bool E.out.symm, bel_box w _ _⟩
    by_cases cM : m = 0
    rotate_left
    · have E : Aside (res = false) := ⟨by rw [HV.out]; simp [ownB, -ByteArray.size_eq_zero_iff] at cB cN cM ⊢ <;> first | done | omega | simp_all⟩
      have HB : Aside (nameB s = true) := ⟨cB⟩
      subst cN
      have qM : 0 < m := by omega
      clear HV SZ NZ MZ cB cM
      go_enter Try.func222, Try.ntmps222
      go_wp2_with fail
      go_quiet (fail)
      go_wp2_with (go_at_call 175; refine (nameOK s _ hs).mono ?_; rintro e w' ⟨rfl, rfl⟩; rw [HB.out])
      go_ret
      exact ⟨ret_bool E.out.symm, bel_box w _ _⟩
    have E : Aside (res = true) := ⟨by rw [HV.out]; simp [ownB, -ByteArray.size_eq_zero_iff] at cB cN cM ⊢ <;> first | done | omega | simp_all⟩
    have HB : Aside (nameB s = true) := ⟨cB⟩
    subst cN
    subst cM
    clear HV SZ NZ MZ cB
    go_enter Try.func222, Try.ntmps222
    go_wp2_with fail
    go_quiet (fail)
    go_wp2_with (go_at_call 175; refine (nameOK s _ hs).mono ?_; rintro e w' ⟨rfl, rfl⟩; rw [HB.out])
    go_ret
    exact ⟨ret_bool E.out.symm, bel_box w _ _⟩
  · by_cases cG : 0 ≤ n
    rotate_left
    · have E : Aside (res = false) := ⟨by rw [HV.out]; simp [ownB, -ByteArray.size_eq_zero_iff] at cG ⊢ <;> first | done | omega | simp_all⟩
      have qG : n < 0 := by omega
      clear HV SZ NZ MZ cG
      go_enter Try.func222, Try.ntmps222
      go_wp2_with fail
      go_quiet (fail)
      go_wp2_with fail
      go_ret
      exact ⟨ret_bool E.out.symm, bel_box w _ _⟩
    by_cases cH : n ≤ 1000000000000000
    rotate_left
    · have E : Aside (res = false) := ⟨by rw [HV.out]; simp [ownB, -ByteArray.size_eq_zero_iff] at cG cH ⊢ <;> first | done | omega | simp_all⟩
      have qG : 0 ≤ n := cG
      have qH : 1000000000000000 < n := by omega
      clear HV SZ NZ MZ cG cH
      go_enter Try.func222, Try.ntmps222
      go_wp2_with fail
      go_quiet (fail)
      go_wp2_with fail
      go_ret
      exact ⟨ret_bool E.out.symm, bel_box w _ _⟩
    by_cases cS : s.size = 0
    rotate_left
    · have E : Aside (res = false) := ⟨by rw [HV.out]; simp [ownB, -ByteArray.size_eq_zero_iff] at cG cH cS ⊢ <;> first | done | omega | simp_all⟩
      have qG : 0 ≤ n := cG
      have qH : n ≤ 1000000000000000 := cH
      have qS : (s.toList == []) = false := by
        rw [beq_eq_false_iff_ne, ByteArray.toList_eq]
        intro h
        apply cS
        change s.data.toList.length = 0
        rw [h]; rfl
      clear HV SZ NZ MZ cG cH cS
      go_enter Try.func222, Try.ntmps222
      go_wp2_with fail
      go_quiet (fail)
      go_wp2_with fail
      go_ret
      exact ⟨ret_bool E.out.symm, bel_box w _ _⟩
    by_cases cM : m = 0
    rotate_left
    · have E : Aside (res = false) := ⟨by rw [HV.out]; simp [ownB, -ByteArray.size_eq_zero_iff] at cG cH cS cM ⊢ <;> first | done | omega | simp_all⟩
      have qG : 0 ≤ n := cG
      have qH : n ≤ 1000000000000000 := cH
      obtain rfl : s = ⟨#[]⟩ := size0 cS rfl
      have qM : 0 < m := by omega
      clear HV SZ NZ MZ cG cH cS cM
      go_enter Try.func222, Try.ntmps222
      go_wp2_with fail
      go_quiet (fail)
      go_wp2_with fail
      go_ret
      exact ⟨ret_bool E.out.symm, bel_box w _ _⟩
    have E : Aside (res = true) := ⟨by rw [HV.out]; simp [ownB, -ByteArray.size_eq_zero_iff] at cG cH cS cM ⊢ <;> first | done | omega | simp_all⟩
    have qG : 0 ≤ n := cG
    have qH : n ≤ 1000000000000000 := cH
    obtain rfl : s = ⟨#[]⟩ := size0 cS rfl
    subst cM
    clear HV SZ NZ MZ cG cH cS
    go_enter Try.func222, Try.ntmps222
    go_wp2_with fail
    go_quiet (fail)
    go_wp2_with fail
    go_ret
    exact ⟨ret_bool E.out.symm, bel_box w _ _⟩
  · by_cases cG : 0 ≤ n
    rotate_left
    · have E : Aside (res = false) := ⟨by rw [HV.out]; simp [ownB, -ByteArray.size_eq_zero_iff] at cG ⊢ <;> first | done | omega | simp_all⟩
      have qG : n < 0 := by omega
      clear HV SZ NZ MZ cG
      go_enter Try.func222, Try.ntmps222
      go_wp2_with fail
      go_quiet (fail)
      go_wp2_with fail
      go_ret
      exact ⟨ret_bool E.out.symm, bel_box w _ _⟩
    by_cases cH : n ≤ 1000000000000000
    rotate_left
    · have E : Aside (res = false) := ⟨by rw [HV.out]; simp [ownB, -ByteArray.size_eq_zero_iff] at cG cH ⊢ <;> first | done | omega | simp_all⟩
      have qG : 0 ≤ n := cG
      have qH : 1000000000000000 < n := by omega
      clear HV SZ NZ MZ cG cH
      go_enter Try.func222, Try.ntmps222
      go_wp2_with fail
      go_quiet (fail)
      go_wp2_with fail
      go_ret
      exact ⟨ret_bool E.out.symm, bel_box w _ _⟩
    by_cases cS : s.size = 0
    rotate_left
    · have E : Aside (res = false) := ⟨by rw [HV.out]; simp [ownB, -ByteArray.size_eq_zero_iff] at cG cH cS ⊢ <;> first | done | omega | simp_all⟩
      have qG : 0 ≤ n := cG
      have qH : n ≤ 1000000000000000 := cH
      have qS : (s.toList == []) = false := by
        rw [beq_eq_false_iff_ne, ByteArray.toList_eq]
        intro h
        apply cS
        change s.data.toList.length = 0
        rw [h]; rfl
      clear HV SZ NZ MZ cG cH cS
      go_enter Try.func222, Try.ntmps222
      go_wp2_with fail
      go_quiet (fail)
      go_wp2_with fail
      go_ret
      exact ⟨ret_bool E.out.symm, bel_box w _ _⟩
    have E : Aside (res = true) := ⟨by rw [HV.out]; simp [ownB, -ByteArray.size_eq_zero_iff] at cG cH cS ⊢ <;> first | done | omega | simp_all⟩
    have qG : 0 ≤ n := cG
    have qH : n ≤ 1000000000000000 := cH
    obtain rfl : s = ⟨#[]⟩ := size0 cS rfl
    clear HV SZ NZ MZ cG cH cS
    go_enter Try.func222, Try.ntmps222
    go_wp2_with fail
    go_quiet (fail)
    go_wp2_with fail
    go_ret
    exact ⟨ret_bool E.out.symm, bel_box w _ _⟩
  · by_cases cG : 0 ≤ n
    rotate_left
    · have E : Aside (res = false) := ⟨by rw [HV.out]; simp [ownB, -ByteArray.size_eq_zero_iff] at cG ⊢ <;> first | done | omega | simp_all⟩
      have qG : n < 0 := by omega
      clear HV SZ NZ MZ cG
      go_enter Try.func222, Try.ntmps222
      go_wp2_with fail
      go_quiet (fail)
      go_wp2_with fail
      go_ret
      exact ⟨ret_bool E.out.symm, bel_box w _ _⟩
    by_cases cH : n ≤ 1000000000000000
    rotate_left
    · have E : Aside (res = false) := ⟨by rw [HV.out]; simp [ownB, -ByteArray.size_eq_zero_iff] at cG cH ⊢ <;> first | done | omega | simp_all⟩
      have qG : 0 ≤ n := cG
      have qH : 1000000000000000 < n := by omega
      clear HV SZ NZ MZ cG cH
      go_enter Try.func222, Try.ntmps222
      go_wp2_with fail
      go_quiet (fail)
      go_wp2_with fail
      go_ret
      exact ⟨ret_bool E.out.symm, bel_box w _ _⟩
    by_cases cS : s.size = 0
    rotate_left
    · have E : Aside (res = false) := ⟨by rw [HV.out]; simp [ownB, -ByteArray.size_eq_zero_iff] at cG cH cS ⊢ <;> first | done | omega | simp_all⟩
      have qG : 0 ≤ n := cG
      have qH : n ≤ 1000000000000000 := cH
      have qS : (s.toList == []) = false := by
        rw [beq_eq_false_iff_ne, ByteArray.toList_eq]
        intro h
        apply cS
        change s.data.toList.length = 0
        rw [h]; rfl
      clear HV SZ NZ MZ cG cH cS
      go_enter Try.func222, Try.ntmps222
      go_wp2_with fail
      go_quiet (fail)
      go_wp2_with fail
      go_ret
      exact ⟨ret_bool E.out.symm, bel_box w _ _⟩
    by_cases cM : m = 0
    rotate_left
    · have E : Aside (res = false) := ⟨by rw [HV.out]; simp [ownB, -ByteArray.size_eq_zero_iff] at cG cH cS cM ⊢ <;> first | done | omega | simp_all⟩
      have qG : 0 ≤ n := cG
      have qH : n ≤ 1000000000000000 := cH
      obtain rfl : s = ⟨#[]⟩ := size0 cS rfl
      have qM : 0 < m := by omega
      clear HV SZ NZ MZ cG cH cS cM
      go_enter Try.func222, Try.ntmps222
      go_wp2_with fail
      go_quiet (fail)
      go_wp2_with fail
      go_ret
      exact ⟨ret_bool E.out.symm, bel_box w _ _⟩
    have E : Aside (res = true) := ⟨by rw [HV.out]; simp [ownB, -ByteArray.size_eq_zero_iff] at cG cH cS cM ⊢ <;> first | done | omega | simp_all⟩
    have qG : 0 ≤ n := cG
    have qH : n ≤ 1000000000000000 := cH
    obtain rfl : s = ⟨#[]⟩ := size0 cS rfl
    subst cM
    clear HV SZ NZ MZ cG cH cS
    go_enter Try.func222, Try.ntmps222
    go_wp2_with fail
    go_quiet (fail)
    go_wp2_with fail
    go_ret
    exact ⟨ret_bool E.out.symm, bel_box w _ _⟩
  · by_cases cN : n = 0
    rotate_left
    · have E : Aside (res = false) := ⟨by rw [HV.out]; simp [ownB, -ByteArray.size_eq_zero_iff] at cN ⊢ <;> first | done | omega | simp_all⟩
      have qN : (n != 0) = true := by simpa using cN
      clear HV SZ NZ MZ cN
      go_enter Try.func222, Try.ntmps222
      go_wp2_with fail
      go_quiet (fail)
      go_wp2_with fail
      go_ret
      exact ⟨ret_bool E.out.symm, bel_box w _ _⟩
    by_cases cS : s.size = 0
    rotate_left
    · have E : Aside (res = false) := ⟨by rw [HV.out]; simp [ownB, -ByteArray.size_eq_zero_iff] at cN cS ⊢ <;> first | done | omega | simp_all⟩
      subst cN
      have qS : (s.toList == []) = false := by
        rw [beq_eq_false_iff_ne, ByteArray.toList_eq]
        intro h
        apply cS
        change s.data.toList.length = 0
        rw [h]; rfl
      clear HV SZ NZ MZ cS
      go_enter Try.func222, Try.ntmps222
      go_wp2_with fail
      go_quiet (fail)
      go_wp2_with fail
      go_ret
      exact ⟨ret_bool E.out.symm, bel_box w _ _⟩
    have E : Aside (res = true) := ⟨by rw [HV.out]; simp [ownB, -ByteArray.size_eq_zero_iff] at cN cS ⊢ <;> first | done | omega | simp_all⟩
    subst cN
    obtain rfl : s = ⟨#[]⟩ := size0 cS rfl
    clear HV SZ NZ MZ cS
    go_enter Try.func222, Try.ntmps222
    go_wp2_with fail
    go_quiet (fail)
    go_wp2_with fail
    go_ret
    exact ⟨ret_bool E.out.symm, bel_box w _ _⟩
  · by_cases cN : n = 0
    rotate_left
    · have E : Aside (res = false) := ⟨by rw [HV.out]; simp [ownB, -ByteArray.size_eq_zero_iff] at cN ⊢ <;> first | done | omega | simp_all⟩
      have qN : (n != 0) = true := by simpa using cN
      clear HV SZ NZ MZ cN
      go_enter Try.func222, Try.ntmps222
      go_wp2_with fail
      go_quiet (fail)
      go_wp2_with fail
      go_ret
      exact ⟨ret_bool E.out.symm, bel_box w _ _⟩
    by_cases cS : s.size = 0
    rotate_left
    · have E : Aside (res = false) := ⟨by rw [HV.out]; simp [ownB, -ByteArray.size_eq_zero_iff] at cN cS ⊢ <;> first | done | omega | simp_all⟩
      subst cN
      have qS : (s.toList == []) = false := by
        rw [beq_eq_false_iff_ne, ByteArray.toList_eq]
        intro h
        apply cS
        change s.data.toList.length = 0
        rw [h]; rfl
      clear HV SZ NZ MZ cS
      go_enter Try.func222, Try.ntmps222
      go_wp2_with fail
      go_quiet (fail)
      go_wp2_with fail
      go_ret
      exact ⟨ret_bool E.out.symm, bel_box w _ _⟩
    by_cases cE : m % 2 = 0
    rotate_left
    · have E : Aside (res = false) := ⟨by rw [HV.out]; simp [ownB, -ByteArray.size_eq_zero_iff] at cN cS cE ⊢ <;> first | done | omega | simp_all⟩
      subst cN
      obtain rfl : s = ⟨#[]⟩ := size0 cS rfl
      have qE0 : (m : Int).tmod 2 = (m : Int) % 2 := Int.tmod_eq_emod_of_nonneg (by omega)
      have qE : ((m : Int) % 2 == 0) = false := by simp; omega
      have qE2 : (m : Int) % 2 = 1 := by omega
      clear HV SZ NZ MZ cS cE
      go_enter Try.func222, Try.ntmps222
      go_wp2_with fail
      go_quiet (fail)
      go_wp2_with fail
      go_ret
      exact ⟨ret_bool E.out.symm, bel_box w _ _⟩
    have E : Aside (res = true) := ⟨by rw [HV.out]; simp [ownB, -ByteArray.size_eq_zero_iff] at cN cS cE ⊢ <;> first | done | omega | simp_all⟩
    subst cN
    obtain rfl : s = ⟨#[]⟩ := size0 cS rfl
    have qE0 : (m : Int).tmod 2 = (m : Int) % 2 := Int.tmod_eq_emod_of_nonneg (by omega)
    have qE : ((m : Int) % 2 == 0) = true := by simp; omega
    have qE2 : (m : Int) % 2 = 0 := by omega
    clear HV SZ NZ MZ cS cE
    go_enter Try.func222, Try.ntmps222
    go_wp2_with fail
    go_quiet (fail)
    go_wp2_with fail
    go_ret
    exact ⟨ret_bool E.out.symm, bel_box w _ _⟩
  · by_cases cN : n = 0
    rotate_left
    · have E : Aside (res = false) := ⟨by rw [HV.out]; simp [ownB, -ByteArray.size_eq_zero_iff] at cN ⊢ <;> first | done | omega | simp_all⟩
      have qN : (n != 0) = true := by simpa using cN
      clear HV SZ NZ MZ cN
      go_enter Try.func222, Try.ntmps222
      go_wp2_with fail
      go_quiet (fail)
      go_wp2_with fail
      go_ret
      exact ⟨ret_bool E.out.symm, bel_box w _ _⟩
    by_cases cS : s.size = 0
    rotate_left
    · have E : Aside (res = false) := ⟨by rw [HV.out]; simp [ownB, -ByteArray.size_eq_zero_iff] at cN cS ⊢ <;> first | done | omega | simp_all⟩
      subst cN
      have qS : (s.toList == []) = false := by
        rw [beq_eq_false_iff_ne, ByteArray.toList_eq]
        intro h
        apply cS
        change s.data.toList.length = 0
        rw [h]; rfl
      clear HV SZ NZ MZ cS
      go_enter Try.func222, Try.ntmps222
      go_wp2_with fail
      go_quiet (fail)
      go_wp2_with fail
      go_ret
      exact ⟨ret_bool E.out.symm, bel_box w _ _⟩
    have E : Aside (res = true) := ⟨by rw [HV.out]; simp [ownB, -ByteArray.size_eq_zero_iff] at cN cS ⊢ <;> first | done | omega | simp_all⟩
    subst cN
    obtain rfl : s = ⟨#[]⟩ := size0 cS rfl
    clear HV SZ NZ MZ cS
    go_enter Try.func222, Try.ntmps222
    go_wp2_with fail
    go_quiet (fail)
    go_wp2_with fail
    go_ret
    exact ⟨ret_bool E.out.symm, bel_box w _ _⟩
  · by_cases cZ : s.size ≤ 4000
    rotate_left
    · have E : Aside (res = false) := ⟨by rw [HV.out]; simp [ownB, -ByteArray.size_eq_zero_iff] at cZ ⊢ <;> first | done | omega | simp_all⟩
      have qZ : (4000 : Int) < s.size := by omega
      clear HV SZ NZ MZ cZ
      go_enter Try.func222, Try.ntmps222
      go_wp2_with fail
      go_quiet (fail)
      go_wp2_with fail
      go_ret
      exact ⟨ret_bool E.out.symm, bel_box w _ _⟩
    by_cases cN : n = 0
    rotate_left
    · have E : Aside (res = false) := ⟨by rw [HV.out]; simp [ownB, -ByteArray.size_eq_zero_iff] at cZ cN ⊢ <;> first | done | omega | simp_all⟩
      have qZ : (s.size : Int) ≤ 4000 := by omega
      have qN : (n != 0) = true := by simpa using cN
      clear HV SZ NZ MZ cZ cN
      go_enter Try.func222, Try.ntmps222
      go_wp2_with fail
      go_quiet (fail)
      go_wp2_with fail
      go_ret
      exact ⟨ret_bool E.out.symm, bel_box w _ _⟩
    by_cases cM : m = 0
    rotate_left
    · have E : Aside (res = false) := ⟨by rw [HV.out]; simp [ownB, -ByteArray.size_eq_zero_iff] at cZ cN cM ⊢ <;> first | done | omega | simp_all⟩
      have qZ : (s.size : Int) ≤ 4000 := by omega
      subst cN
      have qM : 0 < m := by omega
      clear HV SZ NZ MZ cZ cM
      go_enter Try.func222, Try.ntmps222
      go_wp2_with fail
      go_quiet (fail)
      go_wp2_with fail
      go_ret
      exact ⟨ret_bool E.out.symm, bel_box w _ _⟩
    have E : Aside (res = true) := ⟨by rw [HV.out]; simp [ownB, -ByteArray.size_eq_zero_iff] at cZ cN cM ⊢ <;> first | done | omega | simp_all⟩
    have qZ : (s.size : Int) ≤ 4000 := by omega
    subst cN
    subst cM
    clear HV SZ NZ MZ cZ
    go_enter Try.func222, Try.ntmps222
    go_wp2_with fail
    go_quiet (fail)
    go_wp2_with fail
    go_ret
    exact ⟨ret_bool E.out.symm, bel_box w _ _⟩
end Go.Proofs.Ytdldgchkinflmaa.Fn
