/- What it says that a term is right; the order of right terms, kind by kind. Conditions: none. -/
import Derived.Test.YtdldgchkinflmaaTm3
set_option linter.unusedVariables false
namespace Go.Proofs.Ytdldgchkinflmaa.Fn
open Go.RowKit Go.Proofs.Ytdldgchkinflmaa.Lib Go.Proofs.Ytdldgchkinflmaa.Plan

theorem right_parts {k n : Int} {s : ByteArray} {ts : List T} (h : (T.mk k n s ts).right = true) : ownB k n s ts.length = true ∧ (∀ x ∈ ts, x.right = true) ∧ (k = 7 → rising (evens ts) = true) := by
  rw [T.right_eq, Bool.and_eq_true, Bool.and_eq_true, List.all_eq_true] at h
  refine ⟨h.1, h.2.1, fun e => ?_⟩
  have := h.2.2
  rw [decide_eq_true e] at this
  simpa using this
theorem own_kind {k n : Int} {s : ByteArray} {m : Nat} (h : ownB k n s m = true) : k = 1 ∨ k = 2 ∨ k = 3 ∨ k = 4 ∨ k = 5 ∨ k = 6 ∨ k = 7 ∨ k = 8 ∨ k = 9 := by
  unfold ownB at h
  by_cases e1 : k = 1; · exact Or.inl e1
  by_cases e2 : k = 2; · exact Or.inr (Or.inl e2)
  by_cases e3 : k = 3; · exact Or.inr (Or.inr (Or.inl e3))
  by_cases e4 : k = 4; · exact Or.inr (Or.inr (Or.inr (Or.inl e4)))
  by_cases e5 : k = 5; · exact Or.inr (Or.inr (Or.inr (Or.inr (Or.inl e5))))
  by_cases e6 : k = 6; · exact Or.inr (Or.inr (Or.inr (Or.inr (Or.inr (Or.inl e6)))))
  by_cases e7 : k = 7; · exact Or.inr (Or.inr (Or.inr (Or.inr (Or.inr (Or.inr (Or.inl e7))))))
  by_cases e8 : k = 8; · exact Or.inr (Or.inr (Or.inr (Or.inr (Or.inr (Or.inr (Or.inr (Or.inl e8)))))))
  by_cases e9 : k = 9; · exact Or.inr (Or.inr (Or.inr (Or.inr (Or.inr (Or.inr (Or.inr (Or.inr e9)))))))
  simp [e1, e2, e3, e4, e5, e6, e7, e8, e9] at h
theorem own_num {k n : Int} {s : ByteArray} {m : Nat} (h : ownB k n s m = true) : -1000000000000000 ≤ n ∧ n ≤ 1000000000000000 := by
  rcases own_kind h with rfl | rfl | rfl | rfl | rfl | rfl | rfl | rfl | rfl <;> simp [ownB, -ByteArray.size_eq_zero_iff] at h <;> omega
theorem own_n {n : Int} {s : ByteArray} {m : Nat} {k : Int} (h : ownB k n s m = true) (hk : k = 1 ∨ k = 3 ∨ k = 5) : s.size = 0 ∧ m = 0 := by
  rcases hk with rfl | rfl | rfl <;> simp [ownB, -ByteArray.size_eq_zero_iff] at h <;> omega
theorem own_s {n : Int} {s : ByteArray} {m : Nat} {k : Int} (h : ownB k n s m = true) (hk : k = 2 ∨ k = 9) : n = 0 ∧ m = 0 := by
  rcases hk with rfl | rfl <;> simp [ownB, -ByteArray.size_eq_zero_iff] at h <;> omega
theorem own_f {n : Int} {s : ByteArray} {m : Nat} (h : ownB 4 n s m = true) : s.size = 0 := by
  simp [ownB, -ByteArray.size_eq_zero_iff] at h; omega
theorem own_k {n : Int} {s : ByteArray} {m : Nat} {k : Int} (h : ownB k n s m = true) (hk : k = 6 ∨ k = 7 ∨ k = 8) : n = 0 ∧ s.size = 0 := by
  rcases hk with rfl | rfl | rfl <;> simp [ownB, -ByteArray.size_eq_zero_iff] at h <;> omega
theorem size0 {s t : ByteArray} (h : s.size = 0) (h2 : t.size = 0) : s = t := by
  obtain ⟨⟨a⟩⟩ := s
  obtain ⟨⟨b⟩⟩ := t
  have e1 : a = [] := List.eq_nil_of_length_eq_zero h
  have e2 : b = [] := List.eq_nil_of_length_eq_zero h2
  rw [e1, e2]
theorem cmpKids_nil (k : Int) : cmpKids k [] [] = 0 := by simp [cmpKids, firstNe, sgn, evens]
theorem cmp_n {k n n' : Int} {s s' : ByteArray} {ts us : List T} (h : ownB k n s ts.length = true) (h' : ownB k n' s' us.length = true) (hk : k = 1 ∨ k = 3 ∨ k = 5) : T.cmp (.mk k n s ts) (.mk k n' s' us) = sgn n n' := by
  obtain ⟨a, b⟩ := own_n h hk
  obtain ⟨a', b'⟩ := own_n h' hk
  obtain rfl := size0 a a'
  obtain rfl := List.eq_nil_of_length_eq_zero b
  obtain rfl := List.eq_nil_of_length_eq_zero b'
  rw [T.cmp_eq, if_neg (by simp)]
  by_cases e : n = n'
  · subst e
    rw [if_neg (by simp), if_neg (by simp), cmpKids_nil, sgn_self]
  · rw [if_pos e]
theorem cmp_s {k n n' : Int} {s s' : ByteArray} {ts us : List T} (h : ownB k n s ts.length = true) (h' : ownB k n' s' us.length = true) (hk : k = 2 ∨ k = 9) : T.cmp (.mk k n s ts) (.mk k n' s' us) = ordS s s' := by
  obtain ⟨rfl, b⟩ := own_s h hk
  obtain ⟨rfl, b'⟩ := own_s h' hk
  obtain rfl := List.eq_nil_of_length_eq_zero b
  obtain rfl := List.eq_nil_of_length_eq_zero b'
  rw [T.cmp_eq, if_neg (by simp), if_neg (by simp)]
  by_cases e : s = s'
  · subst e
    rw [if_neg (by simp), cmpKids_nil, ordS_self]
  · rw [if_pos e]
theorem cmp_k {k n n' : Int} {s s' : ByteArray} {ts us : List T} (h : ownB k n s ts.length = true) (h' : ownB k n' s' us.length = true) (hk : k = 6 ∨ k = 7 ∨ k = 8) : T.cmp (.mk k n s ts) (.mk k n' s' us) = cmpKids k ts us := by
  obtain ⟨rfl, b⟩ := own_k h hk
  obtain ⟨rfl, b'⟩ := own_k h' hk
  obtain rfl := size0 b b'
  rw [T.cmp_eq, if_neg (by simp), if_neg (by simp), if_neg (by simp)]
theorem cmp_f {n n' : Int} {s s' : ByteArray} {ts us : List T} (h : ownB 4 n s ts.length = true) (h' : ownB 4 n' s' us.length = true) : T.cmp (.mk 4 n s ts) (.mk 4 n' s' us) = if n ≠ n' then sgn n n' else cmpKids 4 ts us := by
  obtain rfl := size0 (own_f h) (own_f h')
  rw [T.cmp_eq, if_neg (by simp)]
  by_cases e : n = n'
  · subst e
    rw [if_neg (by simp), if_neg (by simp), if_neg (by simp)]
  · rw [if_pos e, if_pos e]
theorem kids_8 (ts us : List T) : cmpKids 8 ts us = kidsV ts us := by rw [cmpKids, if_pos rfl, kidsV, eachV_all]
theorem kids_46 {k : Int} (hk : k = 4 ∨ k = 6) (ts us : List T) : cmpKids k ts us = if ts.length ≠ us.length then sgn ts.length us.length else kidsV ts us := by
  have h8 : ¬ k = 8 := by omega
  have h7 : ¬ k = 7 := by omega
  rw [cmpKids, if_neg h8, if_neg h7]
  by_cases e : ts.length = us.length
  · rw [if_neg (by simpa using e), if_neg (by simpa using e), kidsV, eachV_all, e, sgn_self]
    split
    · assumption
    · rfl
  · rw [if_pos e, if_pos e]
/-- What remains of the order of two maps' kids from a part on. -/
def partV (ts us : List T) (p : Nat) : Int := if p = 0 then (if eachV ts us 0 2 = 0 then eachV ts us 1 2 else eachV ts us 0 2) else if p = 1 then eachV ts us 1 2 else 0
theorem partV_step (ts us : List T) {p : Nat} (h : p < 2) : partV ts us p = if eachV ts us p 2 = 0 then partV ts us (p + 1) else eachV ts us p 2 := by
  have : p = 0 ∨ p = 1 := by omega
  rcases this with rfl | rfl
  · simp [partV]
  · have e : partV ts us 2 = 0 := rfl
    rw [show partV ts us 1 = eachV ts us 1 2 from rfl, e]
    split
    · assumption
    · rfl
theorem kids_7 (ts us : List T) : cmpKids 7 ts us = if ts.length ≠ us.length then sgn ts.length us.length else partV ts us 0 := by
  rw [cmpKids, if_neg (by decide), if_pos rfl, partV, if_pos rfl, eachV_even, eachV_odd]
end Go.Proofs.Ytdldgchkinflmaa.Fn
