/- Walks of the acts' test, both sides. Conditions: those of each theorem. -/
import Derived.Test.YtlopbheahedofaaLink1
set_option linter.unusedVariables false
namespace Go.Proofs.Ytlopbheahedofaa.Fn
open Go Go.RowKit Go.Proofs.Ytlopbheahedofaa.Lib Go.Proofs.Ytlopbheahedofaa.Plan
attribute [local go_sem] look_tmp look_const look_func look_global lookT_nil lookT_hit lookT_miss

theorem ba_zero (t : ByteArray) : t.size = 0 ↔ t = ⟨#[]⟩ := by
  constructor
  · intro h
    have h2 : t.data.size = 0 := h
    cases t
    simp at h2
    rw [h2]
  · intro h
    rw [h]
    rfl
theorem ba_full (t : ByteArray) (h : ¬ t.size = 0) : t.toList.isEmpty = false := by
  rw [ByteArray.toList_eq]
  cases hl : t.data.toList with
  | nil => exact absurd (show t.data.size = 0 by rw [← Array.length_toList, hl]; rfl) h
  | cons _ _ => rfl
set_option maxRecDepth 100000 in
set_option maxHeartbeats 8000000 in
theorem iActOK (k n : Int) (t : ByteArray) (w : World) (hs : t.size ≤ 140737488355328) :
    Calls Try.prog 24 #[.agg #[.int .i64 k, .int .i64 n, .string t]] w fun e w' => e = .returned (.bool (actB (k, n, t))) ∧ Below w.heap.size w w' := by
  obtain ⟨r, hr⟩ : ∃ r, r = actB (k, n, t) := ⟨_, rfl⟩
  rw [← hr]
  have HR := Aside.mk hr
  clear hr
  by_cases hlo : n < 0
  · skip
    have E : Aside (r = false) := ⟨by rw [HR.out]; unfold actB; dsimp only; (repeat' split) <;> first | (exfalso; omega) | (simp; done) | (simp; omega) | (simp [*]; done) | (rw [hz]; simp; done) | (rw [hz]; simp; omega)⟩
    clear HR
    go_enter Try.func24, Try.ntmps24
    go_wp2_with fail
    all_goals
      go_ret
      refine ⟨?_, by go_grown⟩
      rw [E.out]
      first | rfl | (simp; done) | (simp; omega) | (simp [*]; done) | (simp [*]; omega)
  · skip
    by_cases hhi : n > 1000000000
    · skip
      have E : Aside (r = false) := ⟨by rw [HR.out]; unfold actB; dsimp only; (repeat' split) <;> first | (exfalso; omega) | (simp; done) | (simp; omega) | (simp [*]; done) | (rw [hz]; simp; done) | (rw [hz]; simp; omega)⟩
      clear HR
      go_enter Try.func24, Try.ntmps24
      go_wp2_with fail
      all_goals
        go_ret
        refine ⟨?_, by go_grown⟩
        rw [E.out]
        first | rfl | (simp; done) | (simp; omega) | (simp [*]; done) | (simp [*]; omega)
    · skip
      by_cases hk1 : k = 1
      · skip
        by_cases hn : n = 0
        · skip
          by_cases hz : t.size ≤ 1000
          · skip
            have E : Aside (r = true) := ⟨by rw [HR.out]; unfold actB; dsimp only; (repeat' split) <;> first | (exfalso; omega) | (simp; done) | (simp; omega) | (simp [*]; done) | (rw [hz]; simp; done) | (rw [hz]; simp; omega)⟩
            clear HR
            go_enter Try.func24, Try.ntmps24
            go_wp2_with fail
            all_goals
              go_ret
              refine ⟨?_, by go_grown⟩
              rw [E.out]
              first | rfl | (simp; done) | (simp; omega) | (simp [*]; done) | (simp [*]; omega)
          · skip
            have E : Aside (r = false) := ⟨by rw [HR.out]; unfold actB; dsimp only; (repeat' split) <;> first | (exfalso; omega) | (simp; done) | (simp; omega) | (simp [*]; done) | (rw [hz]; simp; done) | (rw [hz]; simp; omega)⟩
            clear HR
            go_enter Try.func24, Try.ntmps24
            go_wp2_with fail
            all_goals
              go_ret
              refine ⟨?_, by go_grown⟩
              rw [E.out]
              first | rfl | (simp; done) | (simp; omega) | (simp [*]; done) | (simp [*]; omega)
        · skip
          have E : Aside (r = false) := ⟨by rw [HR.out]; unfold actB; dsimp only; (repeat' split) <;> first | (exfalso; omega) | (simp; done) | (simp; omega) | (simp [*]; done) | (rw [hz]; simp; done) | (rw [hz]; simp; omega)⟩
          clear HR
          go_enter Try.func24, Try.ntmps24
          go_wp2_with fail
          all_goals
            go_ret
            refine ⟨?_, by go_grown⟩
            rw [E.out]
            first | rfl | (simp; done) | (simp; omega) | (simp [*]; done) | (simp [*]; omega)
      · skip
        by_cases hk2 : k = 2
        · skip
          by_cases hn : n = 0
          · skip
            by_cases hz : t.size = 0
            · skip
              have hz2 := (ba_zero t).1 hz
              have E : Aside (r = true) := ⟨by rw [HR.out]; unfold actB; dsimp only; (repeat' split) <;> first | (exfalso; omega) | (simp; done) | (simp; omega) | (simp [*]; done) | (rw [hz]; simp; done) | (rw [hz]; simp; omega)⟩
              clear HR
              go_enter Try.func24, Try.ntmps24
              go_wp2_with fail
              all_goals
                go_ret
                refine ⟨?_, by go_grown⟩
                rw [E.out]
                first | rfl | (simp; done) | (simp; omega) | (simp [*]; done) | (simp [*]; omega)
            · skip
              have hz2 : ¬ t = ⟨#[]⟩ := fun e => hz ((ba_zero t).2 e)
              have hz3 := ba_full t hz
              have E : Aside (r = false) := ⟨by rw [HR.out]; unfold actB; dsimp only; (repeat' split) <;> first | (exfalso; omega) | (simp; done) | (simp; omega) | (simp [*]; done) | (rw [hz]; simp; done) | (rw [hz]; simp; omega)⟩
              clear HR
              go_enter Try.func24, Try.ntmps24
              go_wp2_with fail
              all_goals
                go_ret
                refine ⟨?_, by go_grown⟩
                rw [E.out]
                first | rfl | (simp; done) | (simp; omega) | (simp [*]; done) | (simp [*]; omega)
          · skip
            have E : Aside (r = false) := ⟨by rw [HR.out]; unfold actB; dsimp only; (repeat' split) <;> first | (exfalso; omega) | (simp; done) | (simp; omega) | (simp [*]; done) | (rw [hz]; simp; done) | (rw [hz]; simp; omega)⟩
            clear HR
            go_enter Try.func24, Try.ntmps24
            go_wp2_with fail
            all_goals
              go_ret
              refine ⟨?_, by go_grown⟩
              rw [E.out]
              first | rfl | (simp; done) | (simp; omega) | (simp [*]; done) | (simp [*]; omega)
        · skip
          by_cases hk3 : k = 3
          · skip
            by_cases hz : t.size = 0
            · skip
              have hz2 := (ba_zero t).1 hz
              have E : Aside (r = true) := ⟨by rw [HR.out]; unfold actB; dsimp only; (repeat' split) <;> first | (exfalso; omega) | (simp; done) | (simp; omega) | (simp [*]; done) | (rw [hz]; simp; done) | (rw [hz]; simp; omega)⟩
              clear HR
              go_enter Try.func24, Try.ntmps24
              go_wp2_with fail
              all_goals
                go_ret
                refine ⟨?_, by go_grown⟩
                rw [E.out]
                first | rfl | (simp; done) | (simp; omega) | (simp [*]; done) | (simp [*]; omega)
            · skip
              have hz2 : ¬ t = ⟨#[]⟩ := fun e => hz ((ba_zero t).2 e)
              have hz3 := ba_full t hz
              have E : Aside (r = false) := ⟨by rw [HR.out]; unfold actB; dsimp only; (repeat' split) <;> first | (exfalso; omega) | (simp; done) | (simp; omega) | (simp [*]; done) | (rw [hz]; simp; done) | (rw [hz]; simp; omega)⟩
              clear HR
              go_enter Try.func24, Try.ntmps24
              go_wp2_with fail
              all_goals
                go_ret
                refine ⟨?_, by go_grown⟩
                rw [E.out]
                first | rfl | (simp; done) | (simp; omega) | (simp [*]; done) | (simp [*]; omega)
          · skip
            by_cases hk4 : k = 4
            · skip
              by_cases hz : t.size = 0
              · skip
                have hz2 := (ba_zero t).1 hz
                have E : Aside (r = true) := ⟨by rw [HR.out]; unfold actB; dsimp only; (repeat' split) <;> first | (exfalso; omega) | (simp; done) | (simp; omega) | (simp [*]; done) | (rw [hz]; simp; done) | (rw [hz]; simp; omega)⟩
                clear HR
                go_enter Try.func24, Try.ntmps24
                go_wp2_with fail
                all_goals
                  go_ret
                  refine ⟨?_, by go_grown⟩
                  rw [E.out]
                  first | rfl | (simp; done) | (simp; omega) | (simp [*]; done) | (simp [*]; omega)
              · skip
                have hz2 : ¬ t = ⟨#[]⟩ := fun e => hz ((ba_zero t).2 e)
                have hz3 := ba_full t hz
                have E : Aside (r = false) := ⟨by rw [HR.out]; unfold actB; dsimp only; (repeat' split) <;> first | (exfalso; omega) | (simp; done) | (simp; omega) | (simp [*]; done) | (rw [hz]; simp; done) | (rw [hz]; simp; omega)⟩
                clear HR
                go_enter Try.func24, Try.ntmps24
                go_wp2_with fail
                all_goals
                  go_ret
                  refine ⟨?_, by go_grown⟩
                  rw [E.out]
                  first | rfl | (simp; done) | (simp; omega) | (simp [*]; done) | (simp [*]; omega)
            · skip
              by_cases hk5 : k = 5
              · skip
                by_cases hz : t.size = 0
                · skip
                  have hz2 := (ba_zero t).1 hz
                  have E : Aside (r = true) := ⟨by rw [HR.out]; unfold actB; dsimp only; (repeat' split) <;> first | (exfalso; omega) | (simp; done) | (simp; omega) | (simp [*]; done) | (rw [hz]; simp; done) | (rw [hz]; simp; omega)⟩
                  clear HR
                  go_enter Try.func24, Try.ntmps24
                  go_wp2_with fail
                  all_goals
                    go_ret
                    refine ⟨?_, by go_grown⟩
                    rw [E.out]
                    first | rfl | (simp; done) | (simp; omega) | (simp [*]; done) | (simp [*]; omega)
                · skip
                  have hz2 : ¬ t = ⟨#[]⟩ := fun e => hz ((ba_zero t).2 e)
                  have hz3 := ba_full t hz
                  have E : Aside (r = false) := ⟨by rw [HR.out]; unfold actB; dsimp only; (repeat' split) <;> first | (exfalso; omega) | (simp; done) | (simp; omega) | (simp [*]; done) | (rw [hz]; simp; done) | (rw [hz]; simp; omega)⟩
                  clear HR
                  go_enter Try.func24, Try.ntmps24
                  go_wp2_with fail
                  all_goals
                    go_ret
                    refine ⟨?_, by go_grown⟩
                    rw [E.out]
                    first | rfl | (simp; done) | (simp; omega) | (simp [*]; done) | (simp [*]; omega)
              · skip
                by_cases hk6 : k = 6
                · skip
                  by_cases hz : t.size = 1
                  · skip
                    have E : Aside (r = true) := ⟨by rw [HR.out]; unfold actB; dsimp only; (repeat' split) <;> first | (exfalso; omega) | (simp; done) | (simp; omega) | (simp [*]; done) | (rw [hz]; simp; done) | (rw [hz]; simp; omega)⟩
                    clear HR
                    go_enter Try.func24, Try.ntmps24
                    go_wp2_with fail
                    all_goals
                      go_ret
                      refine ⟨?_, by go_grown⟩
                      rw [E.out]
                      first | rfl | (simp; done) | (simp; omega) | (simp [*]; done) | (simp [*]; omega)
                  · skip
                    have E : Aside (r = false) := ⟨by rw [HR.out]; unfold actB; dsimp only; (repeat' split) <;> first | (exfalso; omega) | (simp; done) | (simp; omega) | (simp [*]; done) | (rw [hz]; simp; done) | (rw [hz]; simp; omega)⟩
                    clear HR
                    go_enter Try.func24, Try.ntmps24
                    go_wp2_with fail
                    all_goals
                      go_ret
                      refine ⟨?_, by go_grown⟩
                      rw [E.out]
                      first | rfl | (simp; done) | (simp; omega) | (simp [*]; done) | (simp [*]; omega)
                · skip
                  have E : Aside (r = false) := ⟨by rw [HR.out]; unfold actB; dsimp only; (repeat' split) <;> first | (exfalso; omega) | (simp; done) | (simp; omega) | (simp [*]; done) | (rw [hz]; simp; done) | (rw [hz]; simp; omega)⟩
                  clear HR
                  go_enter Try.func24, Try.ntmps24
                  go_wp2_with fail
                  all_goals
                    go_ret
                    refine ⟨?_, by go_grown⟩
                    rw [E.out]
                    first | rfl | (simp; done) | (simp; omega) | (simp [*]; done) | (simp [*]; omega)
set_option maxRecDepth 100000 in
set_option maxHeartbeats 8000000 in
theorem sActOK (k n : Int) (t : ByteArray) (w : World) (hs : t.size ≤ 140737488355328) :
    Calls Try.prog 22 #[.agg #[.int .i64 k, .int .i64 n, .string t]] w fun e w' => e = .returned (.bool (actB (k, n, t))) ∧ Below w.heap.size w w' := by
  obtain ⟨r, hr⟩ : ∃ r, r = actB (k, n, t) := ⟨_, rfl⟩
  rw [← hr]
  have HR := Aside.mk hr
  clear hr
  by_cases hk1 : k = 1
  · skip
    by_cases hn : n = 0
    · skip
      by_cases hz : t.size ≤ 1000
      · skip
        have E : Aside (r = true) := ⟨by rw [HR.out]; unfold actB; dsimp only; (repeat' split) <;> first | (exfalso; omega) | (simp; done) | (simp; omega) | (simp [*]; done) | (rw [hz]; simp; done) | (rw [hz]; simp; omega)⟩
        clear HR
        go_enter Try.func22, Try.ntmps22
        go_wp2_with fail
        all_goals
          go_ret
          refine ⟨?_, by go_grown⟩
          rw [E.out]
          first | rfl | (simp; done) | (simp; omega) | (simp [*]; done) | (simp [*]; omega)
      · skip
        have E : Aside (r = false) := ⟨by rw [HR.out]; unfold actB; dsimp only; (repeat' split) <;> first | (exfalso; omega) | (simp; done) | (simp; omega) | (simp [*]; done) | (rw [hz]; simp; done) | (rw [hz]; simp; omega)⟩
        clear HR
        go_enter Try.func22, Try.ntmps22
        go_wp2_with fail
        all_goals
          go_ret
          refine ⟨?_, by go_grown⟩
          rw [E.out]
          first | rfl | (simp; done) | (simp; omega) | (simp [*]; done) | (simp [*]; omega)
    · skip
      have E : Aside (r = false) := ⟨by rw [HR.out]; unfold actB; dsimp only; (repeat' split) <;> first | (exfalso; omega) | (simp; done) | (simp; omega) | (simp [*]; done) | (rw [hz]; simp; done) | (rw [hz]; simp; omega)⟩
      clear HR
      go_enter Try.func22, Try.ntmps22
      go_wp2_with fail
      all_goals
        go_ret
        refine ⟨?_, by go_grown⟩
        rw [E.out]
        first | rfl | (simp; done) | (simp; omega) | (simp [*]; done) | (simp [*]; omega)
  · skip
    by_cases hk2 : k = 2
    · skip
      by_cases hn : n = 0
      · skip
        by_cases hz : t.size = 0
        · skip
          have hz2 := (ba_zero t).1 hz
          have E : Aside (r = true) := ⟨by rw [HR.out]; unfold actB; dsimp only; (repeat' split) <;> first | (exfalso; omega) | (simp; done) | (simp; omega) | (simp [*]; done) | (rw [hz]; simp; done) | (rw [hz]; simp; omega)⟩
          clear HR
          go_enter Try.func22, Try.ntmps22
          go_wp2_with fail
          all_goals
            go_ret
            refine ⟨?_, by go_grown⟩
            rw [E.out]
            first | rfl | (simp; done) | (simp; omega) | (simp [*]; done) | (simp [*]; omega)
        · skip
          have hz2 : ¬ t = ⟨#[]⟩ := fun e => hz ((ba_zero t).2 e)
          have hz3 := ba_full t hz
          have E : Aside (r = false) := ⟨by rw [HR.out]; unfold actB; dsimp only; (repeat' split) <;> first | (exfalso; omega) | (simp; done) | (simp; omega) | (simp [*]; done) | (rw [hz]; simp; done) | (rw [hz]; simp; omega)⟩
          clear HR
          go_enter Try.func22, Try.ntmps22
          go_wp2_with fail
          all_goals
            go_ret
            refine ⟨?_, by go_grown⟩
            rw [E.out]
            first | rfl | (simp; done) | (simp; omega) | (simp [*]; done) | (simp [*]; omega)
      · skip
        have E : Aside (r = false) := ⟨by rw [HR.out]; unfold actB; dsimp only; (repeat' split) <;> first | (exfalso; omega) | (simp; done) | (simp; omega) | (simp [*]; done) | (rw [hz]; simp; done) | (rw [hz]; simp; omega)⟩
        clear HR
        go_enter Try.func22, Try.ntmps22
        go_wp2_with fail
        all_goals
          go_ret
          refine ⟨?_, by go_grown⟩
          rw [E.out]
          first | rfl | (simp; done) | (simp; omega) | (simp [*]; done) | (simp [*]; omega)
    · skip
      by_cases hk3 : k = 3
      · skip
        by_cases hlo : 0 ≤ n
        · skip
          by_cases hhi : n ≤ 1000000000
          · skip
            by_cases hz : t.size = 0
            · skip
              have hz2 := (ba_zero t).1 hz
              have E : Aside (r = true) := ⟨by rw [HR.out]; unfold actB; dsimp only; (repeat' split) <;> first | (exfalso; omega) | (simp; done) | (simp; omega) | (simp [*]; done) | (rw [hz]; simp; done) | (rw [hz]; simp; omega)⟩
              clear HR
              go_enter Try.func22, Try.ntmps22
              go_wp2_with fail
              refine (between _ _ _ _).mono ?_
              rintro e w1 ⟨rfl, rfl⟩
              rw [show (decide ((0 : Int) ≤ n) && decide (n ≤ 1000000000)) = true by first | (simp; done) | (simp; omega)]
              go_wp2_with fail
              all_goals
                go_ret
                refine ⟨?_, by go_grown⟩
                rw [E.out]
                first | rfl | (simp; done) | (simp; omega) | (simp [*]; done) | (simp [*]; omega)
            · skip
              have hz2 : ¬ t = ⟨#[]⟩ := fun e => hz ((ba_zero t).2 e)
              have hz3 := ba_full t hz
              have E : Aside (r = false) := ⟨by rw [HR.out]; unfold actB; dsimp only; (repeat' split) <;> first | (exfalso; omega) | (simp; done) | (simp; omega) | (simp [*]; done) | (rw [hz]; simp; done) | (rw [hz]; simp; omega)⟩
              clear HR
              go_enter Try.func22, Try.ntmps22
              go_wp2_with fail
              refine (between _ _ _ _).mono ?_
              rintro e w1 ⟨rfl, rfl⟩
              rw [show (decide ((0 : Int) ≤ n) && decide (n ≤ 1000000000)) = true by first | (simp; done) | (simp; omega)]
              go_wp2_with fail
              all_goals
                go_ret
                refine ⟨?_, by go_grown⟩
                rw [E.out]
                first | rfl | (simp; done) | (simp; omega) | (simp [*]; done) | (simp [*]; omega)
          · skip
            have E : Aside (r = false) := ⟨by rw [HR.out]; unfold actB; dsimp only; (repeat' split) <;> first | (exfalso; omega) | (simp; done) | (simp; omega) | (simp [*]; done) | (rw [hz]; simp; done) | (rw [hz]; simp; omega)⟩
            clear HR
            go_enter Try.func22, Try.ntmps22
            go_wp2_with fail
            refine (between _ _ _ _).mono ?_
            rintro e w1 ⟨rfl, rfl⟩
            rw [show (decide ((0 : Int) ≤ n) && decide (n ≤ 1000000000)) = false by first | (simp; done) | (simp; omega)]
            go_wp2_with fail
            all_goals
              go_ret
              refine ⟨?_, by go_grown⟩
              rw [E.out]
              first | rfl | (simp; done) | (simp; omega) | (simp [*]; done) | (simp [*]; omega)
        · skip
          have E : Aside (r = false) := ⟨by rw [HR.out]; unfold actB; dsimp only; (repeat' split) <;> first | (exfalso; omega) | (simp; done) | (simp; omega) | (simp [*]; done) | (rw [hz]; simp; done) | (rw [hz]; simp; omega)⟩
          clear HR
          go_enter Try.func22, Try.ntmps22
          go_wp2_with fail
          refine (between _ _ _ _).mono ?_
          rintro e w1 ⟨rfl, rfl⟩
          rw [show (decide ((0 : Int) ≤ n) && decide (n ≤ 1000000000)) = false by first | (simp; done) | (simp; omega)]
          go_wp2_with fail
          all_goals
            go_ret
            refine ⟨?_, by go_grown⟩
            rw [E.out]
            first | rfl | (simp; done) | (simp; omega) | (simp [*]; done) | (simp [*]; omega)
      · skip
        by_cases hk4 : k = 4
        · skip
          by_cases hlo : 0 ≤ n
          · skip
            by_cases hhi : n ≤ 1000000000
            · skip
              by_cases hz : t.size = 0
              · skip
                have hz2 := (ba_zero t).1 hz
                have E : Aside (r = true) := ⟨by rw [HR.out]; unfold actB; dsimp only; (repeat' split) <;> first | (exfalso; omega) | (simp; done) | (simp; omega) | (simp [*]; done) | (rw [hz]; simp; done) | (rw [hz]; simp; omega)⟩
                clear HR
                go_enter Try.func22, Try.ntmps22
                go_wp2_with fail
                refine (between _ _ _ _).mono ?_
                rintro e w1 ⟨rfl, rfl⟩
                rw [show (decide ((0 : Int) ≤ n) && decide (n ≤ 1000000000)) = true by first | (simp; done) | (simp; omega)]
                go_wp2_with fail
                all_goals
                  go_ret
                  refine ⟨?_, by go_grown⟩
                  rw [E.out]
                  first | rfl | (simp; done) | (simp; omega) | (simp [*]; done) | (simp [*]; omega)
              · skip
                have hz2 : ¬ t = ⟨#[]⟩ := fun e => hz ((ba_zero t).2 e)
                have hz3 := ba_full t hz
                have E : Aside (r = false) := ⟨by rw [HR.out]; unfold actB; dsimp only; (repeat' split) <;> first | (exfalso; omega) | (simp; done) | (simp; omega) | (simp [*]; done) | (rw [hz]; simp; done) | (rw [hz]; simp; omega)⟩
                clear HR
                go_enter Try.func22, Try.ntmps22
                go_wp2_with fail
                refine (between _ _ _ _).mono ?_
                rintro e w1 ⟨rfl, rfl⟩
                rw [show (decide ((0 : Int) ≤ n) && decide (n ≤ 1000000000)) = true by first | (simp; done) | (simp; omega)]
                go_wp2_with fail
                all_goals
                  go_ret
                  refine ⟨?_, by go_grown⟩
                  rw [E.out]
                  first | rfl | (simp; done) | (simp; omega) | (simp [*]; done) | (simp [*]; omega)
            · skip
              have E : Aside (r = false) := ⟨by rw [HR.out]; unfold actB; dsimp only; (repeat' split) <;> first | (exfalso; omega) | (simp; done) | (simp; omega) | (simp [*]; done) | (rw [hz]; simp; done) | (rw [hz]; simp; omega)⟩
              clear HR
              go_enter Try.func22, Try.ntmps22
              go_wp2_with fail
              refine (between _ _ _ _).mono ?_
              rintro e w1 ⟨rfl, rfl⟩
              rw [show (decide ((0 : Int) ≤ n) && decide (n ≤ 1000000000)) = false by first | (simp; done) | (simp; omega)]
              go_wp2_with fail
              all_goals
                go_ret
                refine ⟨?_, by go_grown⟩
                rw [E.out]
                first | rfl | (simp; done) | (simp; omega) | (simp [*]; done) | (simp [*]; omega)
          · skip
            have E : Aside (r = false) := ⟨by rw [HR.out]; unfold actB; dsimp only; (repeat' split) <;> first | (exfalso; omega) | (simp; done) | (simp; omega) | (simp [*]; done) | (rw [hz]; simp; done) | (rw [hz]; simp; omega)⟩
            clear HR
            go_enter Try.func22, Try.ntmps22
            go_wp2_with fail
            refine (between _ _ _ _).mono ?_
            rintro e w1 ⟨rfl, rfl⟩
            rw [show (decide ((0 : Int) ≤ n) && decide (n ≤ 1000000000)) = false by first | (simp; done) | (simp; omega)]
            go_wp2_with fail
            all_goals
              go_ret
              refine ⟨?_, by go_grown⟩
              rw [E.out]
              first | rfl | (simp; done) | (simp; omega) | (simp [*]; done) | (simp [*]; omega)
        · skip
          by_cases hk5 : k = 5
          · skip
            by_cases hlo : 0 ≤ n
            · skip
              by_cases hhi : n ≤ 1000000000
              · skip
                by_cases hz : t.size = 0
                · skip
                  have hz2 := (ba_zero t).1 hz
                  have E : Aside (r = true) := ⟨by rw [HR.out]; unfold actB; dsimp only; (repeat' split) <;> first | (exfalso; omega) | (simp; done) | (simp; omega) | (simp [*]; done) | (rw [hz]; simp; done) | (rw [hz]; simp; omega)⟩
                  clear HR
                  go_enter Try.func22, Try.ntmps22
                  go_wp2_with fail
                  refine (between _ _ _ _).mono ?_
                  rintro e w1 ⟨rfl, rfl⟩
                  rw [show (decide ((0 : Int) ≤ n) && decide (n ≤ 1000000000)) = true by first | (simp; done) | (simp; omega)]
                  go_wp2_with fail
                  all_goals
                    go_ret
                    refine ⟨?_, by go_grown⟩
                    rw [E.out]
                    first | rfl | (simp; done) | (simp; omega) | (simp [*]; done) | (simp [*]; omega)
                · skip
                  have hz2 : ¬ t = ⟨#[]⟩ := fun e => hz ((ba_zero t).2 e)
                  have hz3 := ba_full t hz
                  have E : Aside (r = false) := ⟨by rw [HR.out]; unfold actB; dsimp only; (repeat' split) <;> first | (exfalso; omega) | (simp; done) | (simp; omega) | (simp [*]; done) | (rw [hz]; simp; done) | (rw [hz]; simp; omega)⟩
                  clear HR
                  go_enter Try.func22, Try.ntmps22
                  go_wp2_with fail
                  refine (between _ _ _ _).mono ?_
                  rintro e w1 ⟨rfl, rfl⟩
                  rw [show (decide ((0 : Int) ≤ n) && decide (n ≤ 1000000000)) = true by first | (simp; done) | (simp; omega)]
                  go_wp2_with fail
                  all_goals
                    go_ret
                    refine ⟨?_, by go_grown⟩
                    rw [E.out]
                    first | rfl | (simp; done) | (simp; omega) | (simp [*]; done) | (simp [*]; omega)
              · skip
                have E : Aside (r = false) := ⟨by rw [HR.out]; unfold actB; dsimp only; (repeat' split) <;> first | (exfalso; omega) | (simp; done) | (simp; omega) | (simp [*]; done) | (rw [hz]; simp; done) | (rw [hz]; simp; omega)⟩
                clear HR
                go_enter Try.func22, Try.ntmps22
                go_wp2_with fail
                refine (between _ _ _ _).mono ?_
                rintro e w1 ⟨rfl, rfl⟩
                rw [show (decide ((0 : Int) ≤ n) && decide (n ≤ 1000000000)) = false by first | (simp; done) | (simp; omega)]
                go_wp2_with fail
                all_goals
                  go_ret
                  refine ⟨?_, by go_grown⟩
                  rw [E.out]
                  first | rfl | (simp; done) | (simp; omega) | (simp [*]; done) | (simp [*]; omega)
            · skip
              have E : Aside (r = false) := ⟨by rw [HR.out]; unfold actB; dsimp only; (repeat' split) <;> first | (exfalso; omega) | (simp; done) | (simp; omega) | (simp [*]; done) | (rw [hz]; simp; done) | (rw [hz]; simp; omega)⟩
              clear HR
              go_enter Try.func22, Try.ntmps22
              go_wp2_with fail
              refine (between _ _ _ _).mono ?_
              rintro e w1 ⟨rfl, rfl⟩
              rw [show (decide ((0 : Int) ≤ n) && decide (n ≤ 1000000000)) = false by first | (simp; done) | (simp; omega)]
              go_wp2_with fail
              all_goals
                go_ret
                refine ⟨?_, by go_grown⟩
                rw [E.out]
                first | rfl | (simp; done) | (simp; omega) | (simp [*]; done) | (simp [*]; omega)
          · skip
            by_cases hk6 : k = 6
            · skip
              by_cases hlo : 0 ≤ n
              · skip
                by_cases hhi : n ≤ 1000000000
                · skip
                  by_cases hz : t.size = 1
                  · skip
                    have E : Aside (r = true) := ⟨by rw [HR.out]; unfold actB; dsimp only; (repeat' split) <;> first | (exfalso; omega) | (simp; done) | (simp; omega) | (simp [*]; done) | (rw [hz]; simp; done) | (rw [hz]; simp; omega)⟩
                    clear HR
                    go_enter Try.func22, Try.ntmps22
                    go_wp2_with fail
                    refine (between _ _ _ _).mono ?_
                    rintro e w1 ⟨rfl, rfl⟩
                    rw [show (decide ((0 : Int) ≤ n) && decide (n ≤ 1000000000)) = true by first | (simp; done) | (simp; omega)]
                    go_wp2_with fail
                    all_goals
                      go_ret
                      refine ⟨?_, by go_grown⟩
                      rw [E.out]
                      first | rfl | (simp; done) | (simp; omega) | (simp [*]; done) | (simp [*]; omega)
                  · skip
                    have E : Aside (r = false) := ⟨by rw [HR.out]; unfold actB; dsimp only; (repeat' split) <;> first | (exfalso; omega) | (simp; done) | (simp; omega) | (simp [*]; done) | (rw [hz]; simp; done) | (rw [hz]; simp; omega)⟩
                    clear HR
                    go_enter Try.func22, Try.ntmps22
                    go_wp2_with fail
                    refine (between _ _ _ _).mono ?_
                    rintro e w1 ⟨rfl, rfl⟩
                    rw [show (decide ((0 : Int) ≤ n) && decide (n ≤ 1000000000)) = true by first | (simp; done) | (simp; omega)]
                    go_wp2_with fail
                    all_goals
                      go_ret
                      refine ⟨?_, by go_grown⟩
                      rw [E.out]
                      first | rfl | (simp; done) | (simp; omega) | (simp [*]; done) | (simp [*]; omega)
                · skip
                  have E : Aside (r = false) := ⟨by rw [HR.out]; unfold actB; dsimp only; (repeat' split) <;> first | (exfalso; omega) | (simp; done) | (simp; omega) | (simp [*]; done) | (rw [hz]; simp; done) | (rw [hz]; simp; omega)⟩
                  clear HR
                  go_enter Try.func22, Try.ntmps22
                  go_wp2_with fail
                  refine (between _ _ _ _).mono ?_
                  rintro e w1 ⟨rfl, rfl⟩
                  rw [show (decide ((0 : Int) ≤ n) && decide (n ≤ 1000000000)) = false by first | (simp; done) | (simp; omega)]
                  go_wp2_with fail
                  all_goals
                    go_ret
                    refine ⟨?_, by go_grown⟩
                    rw [E.out]
                    first | rfl | (simp; done) | (simp; omega) | (simp [*]; done) | (simp [*]; omega)
              · skip
                have E : Aside (r = false) := ⟨by rw [HR.out]; unfold actB; dsimp only; (repeat' split) <;> first | (exfalso; omega) | (simp; done) | (simp; omega) | (simp [*]; done) | (rw [hz]; simp; done) | (rw [hz]; simp; omega)⟩
                clear HR
                go_enter Try.func22, Try.ntmps22
                go_wp2_with fail
                refine (between _ _ _ _).mono ?_
                rintro e w1 ⟨rfl, rfl⟩
                rw [show (decide ((0 : Int) ≤ n) && decide (n ≤ 1000000000)) = false by first | (simp; done) | (simp; omega)]
                go_wp2_with fail
                all_goals
                  go_ret
                  refine ⟨?_, by go_grown⟩
                  rw [E.out]
                  first | rfl | (simp; done) | (simp; omega) | (simp [*]; done) | (simp [*]; omega)
            · skip
              have E : Aside (r = false) := ⟨by rw [HR.out]; unfold actB; dsimp only; (repeat' split) <;> first | (exfalso; omega) | (simp; done) | (simp; omega) | (simp [*]; done) | (rw [hz]; simp; done) | (rw [hz]; simp; omega)⟩
              clear HR
              go_enter Try.func22, Try.ntmps22
              go_wp2_with fail
              all_goals
                go_ret
                refine ⟨?_, by go_grown⟩
                rw [E.out]
                first | rfl | (simp; done) | (simp; omega) | (simp [*]; done) | (simp [*]; omega)
end Go.Proofs.Ytlopbheahedofaa.Fn
