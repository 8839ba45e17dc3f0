/- The law FnExactChoose on plain lists: the program's Choose answers what the reference's answers. Conditions: those of the printed statement (lists of at most 2^47 bytes of 64-bit numbers). -/
import Derived.Test.YtjjnlbimegabpaaPFnExactChoosex2
import Derived.Test.YtjjnlbimegabpaaEvt
namespace Go.Proofs.Ytjjnlbimegabpaa.Pure
open Go.RowKit Go.Proofs.Ytjjnlbimegabpaa.PFnExactChoose Go.Proofs.YtjjnlbimegabpaaW.PrintWords Go.Proofs.YtjjnlbimegabpaaW.PrintLast Go.Proofs.Ytjjnlbimegabpaa.Evt
namespace Choose
theorem rd_eq {l : List Int} {i : Nat} (h : i < l.length) : rd l (i : Int) = l[i] := by
  unfold rd
  rw [Int.toNat_natCast, List.getD_eq_getElem?_getD, List.getElem?_eq_getElem h]
  rfl

theorem toIntS_loop (l : List Int) (hl : l.length ≤ 1048576) : ∀ (d i : Nat) (acc : List Int), i + d = l.length → acc.length = l.length → (∀ j, j < i → acc[j]? = l[j]?) →
    Evt (fun k => laws_toIntS.l0 k l acc (i : Int)) l := by
  intro d
  induction d with
  | zero =>
    intro i acc hi ha hj
    refine Evt.step ?_
    simp only [laws_toIntS.l0]
    refine Evt.neg (by omega) (Evt.const ?_)
    congr 1
    refine List.ext_getElem? fun j => ?_
    by_cases h : j < i
    · exact hj j h
    · rw [List.getElem?_eq_none (by omega), List.getElem?_eq_none (by omega)]
  | succ d ih =>
    intro i acc hi ha hj
    refine Evt.step ?_
    simp only [laws_toIntS.l0]
    refine Evt.pos (by omega) (Evt.pos (by omega) (Evt.pos (by omega) ?_))
    rw [wrap64_succ (by omega), Int.toNat_natCast]
    refine ih (i + 1) _ (by omega) (by rw [List.length_set]; exact ha) fun j hlt => ?_
    by_cases h : j = i
    · subst h
      rw [List.getElem?_set_self (by omega), rd_eq (by omega), List.getElem?_eq_getElem (by omega)]
    · rw [List.getElem?_set_ne (by omega)]
      exact hj j (by omega)
theorem toIntS_ok (l : List Int) (hl : l.length ≤ 1048576) : Evt (fun k => laws_toIntS.f k l) l := by
  unfold laws_toIntS.f
  refine Evt.pos (by omega) (Evt.pos (by omega) ?_)
  exact toIntS_loop l hl l.length 0 _ (by omega) (by rw [List.length_replicate]; omega) (fun j h => by omega)

theorem eqIntS_loop (l : List Int) (hl : l.length ≤ 1048576) : ∀ (d i : Nat), i + d = l.length → Evt (fun k => laws_eqIntS.l0 k l l (i : Int)) true := by
  intro d
  induction d with
  | zero =>
    intro i hi
    refine Evt.step ?_
    simp only [laws_eqIntS.l0]
    exact Evt.neg (by omega) (Evt.ret _)
  | succ d ih =>
    intro i hi
    refine Evt.step ?_
    simp only [laws_eqIntS.l0]
    refine Evt.pos (by omega) (Evt.pos (by omega) (Evt.pos (by omega) (Evt.pos trivial ?_)))
    rw [wrap64_succ (by omega)]
    exact ih (i + 1) (by omega)
theorem eqIntS_ok (l : List Int) (hl : l.length ≤ 1048576) : Evt (fun k => laws_eqIntS.f k l l) true := by
  unfold laws_eqIntS.f
  exact Evt.pos rfl (eqIntS_loop l hl l.length 0 (by omega))

theorem choose_same (l0 l1 l2 : List Int) (s : Int) : ∃ r, Evt (fun k => spec_Choose.f k l0 l1 l2 s) r ∧ Evt (fun k => impl_Choose.f k l0 l1 l2 s) r := by
  have hj : ∀ b, (l2.length : Int) > 0 ∨ b = false → ∃ r, Evt (fun k => spec_Choose.j0 k l1 l2 s b) r ∧ Evt (fun k => impl_Choose.j0 k l1 l2 s b) r := by
    intro b hb
    cases b with
    | true =>
      have h2 : (l2.length : Int) > 0 := by simpa using hb
      refine ⟨(rd l2 0, 0), Evt.step ?_, Evt.step ?_⟩
      · simp only [spec_Choose.j0]
        exact Evt.pos trivial (Evt.pos (by omega) (Evt.ret _))
      · simp only [impl_Choose.j0]
        exact Evt.pos trivial (Evt.pos (by omega) (Evt.ret _))
    | false =>
      by_cases h1 : (l1.length : Int) > 0
      · refine ⟨(rd l1 0, wrap64 (s + 1)), Evt.step ?_, Evt.step ?_⟩
        · simp only [spec_Choose.j0]
          exact Evt.neg (by simp) (Evt.pos h1 (Evt.pos (by omega) (Evt.ret _)))
        · simp only [impl_Choose.j0]
          exact Evt.neg (by simp) (Evt.pos h1 (Evt.pos (by omega) (Evt.ret _)))
      · refine ⟨(0, s), Evt.step ?_, Evt.step ?_⟩
        · simp only [spec_Choose.j0]
          exact Evt.neg (by simp) (Evt.neg h1 (Evt.ret _))
        · simp only [impl_Choose.j0]
          exact Evt.neg (by simp) (Evt.neg h1 (Evt.ret _))
  by_cases h0 : (l0.length : Int) > 0
  · exact ⟨(rd l0 0, s), Evt.pos h0 (Evt.pos (by omega) (Evt.ret _)), Evt.pos h0 (Evt.pos (by omega) (Evt.ret _))⟩
  · by_cases h2 : (l2.length : Int) > 0
    · by_cases h1 : (l1.length : Int) = 0
      · obtain ⟨r, a, b⟩ := hj true (.inl h2)
        exact ⟨r, Evt.neg h0 (Evt.pos h2 (Evt.pos h1 a)), Evt.neg h0 (Evt.pos h2 (Evt.pos h1 b))⟩
      · obtain ⟨r, a, b⟩ := hj (decide (s ≥ 8)) (.inl h2)
        exact ⟨r, Evt.neg h0 (Evt.pos h2 (Evt.neg h1 a)), Evt.neg h0 (Evt.pos h2 (Evt.neg h1 b))⟩
    · obtain ⟨r, a, b⟩ := hj false (.inr rfl)
      exact ⟨r, Evt.neg h0 (Evt.neg h2 a), Evt.neg h0 (Evt.neg h2 b)⟩
end Choose
open Choose in
theorem FnExactChoose : laws_FnExactChoose.Pure := by
  intro l0 l1 l2 s _ _ _ _ _ _ _ _ _ _
  refine Evt.get (g := fun k => laws_FnExactChoose.f k l0 l1 l2 s) ?_
  unfold laws_FnExactChoose.f
  by_cases b0 : (l0.length : Int) > 1048576
  · exact Evt.pos b0 (Evt.ret _)
  by_cases b1 : (l1.length : Int) > 1048576
  · exact Evt.neg b0 (Evt.pos b1 (Evt.ret _))
  by_cases b2 : (l2.length : Int) > 1048576
  · exact Evt.neg b0 (Evt.neg b1 (Evt.pos b2 (Evt.ret _)))
  have t0 := toIntS_ok l0 (by omega)
  have t1 := toIntS_ok l1 (by omega)
  have t2 := toIntS_ok l2 (by omega)
  have e0 := eqIntS_ok l0 (by omega)
  have e1 := eqIntS_ok l1 (by omega)
  have e2 := eqIntS_ok l2 (by omega)
  obtain ⟨r, hs, hi⟩ := choose_same l0 l1 l2 s
  refine Evt.neg b0 (Evt.neg b1 (Evt.neg b2 (Evt.bind t0 (Evt.bind t1 (Evt.bind t2 (Evt.bind hs (Evt.bind t0 (Evt.bind t1 (Evt.bind t2 (Evt.bind hi (Evt.pos rfl ?_)))))))))))
  refine Evt.step ?_
  simp only [laws_FnExactChoose.j0]
  exact Evt.neg (by simp) (Evt.bind t0 (Evt.bind e0 (Evt.pos rfl (Evt.bind t1 (Evt.bind e1 (Evt.pos rfl (Evt.bind t2 (Evt.bind e2 (Evt.pos rfl (Evt.ret _))))))))))

end Go.Proofs.Ytjjnlbimegabpaa.Pure
