/- Walks of the parts of ReportOK, the program's. Conditions: those of each theorem. -/
import Derived.Test.YtdldgchkinflmaaRep0
import Derived.Test.YtdldgchkinflmaaEnv
set_option linter.unusedVariables false
namespace Go.Proofs.Ytdldgchkinflmaa.Fn
open Go.RowKit Go.Proofs.Ytdldgchkinflmaa.Lib Go.Proofs.Ytdldgchkinflmaa.Plan
attribute [local go_sem] look_tmp look_const look_func look_global lookT_nil lookT_hit lookT_miss

theorem event_parts {tr : Prop} {w : World} {S : Nat → Prop} {e : AEvent} {cs : List Value} (h : REvent.rd tr w S e cs) :
    ∃ A c, cs = [.int .i64 e.1, .int .i64 e.2.1, .int .i64 e.2.2.1, .int .i64 e.2.2.2.kind, .int .i64 e.2.2.2.num, .string e.2.2.2.str, .slice A e.2.2.2.kids.length c] ∧
      Rec.term.rd tr w S e.2.2.2 [.int .i64 e.2.2.2.kind, .int .i64 e.2.2.2.num, .string e.2.2.2.str, .slice A e.2.2.2.kids.length c] := by
  obtain ⟨_, _, _, _, rfl, p0, q0, i0, j0, -⟩ := h
  obtain ⟨_, _, _, _, rfl, p1, q1, i1, j1, -⟩ := q0
  obtain ⟨_, _, _, _, rfl, p2, q2, i2, j2, -⟩ := q1
  have h3 := Rec.term.mono q2 (fun b h => j0 b (j1 b (j2 b h)))
  obtain rfl := p0
  obtain rfl := p1
  obtain rfl := p2
  obtain ⟨A, c, rfl, -⟩ := Rec.term_iff.1 (id h3)
  exact ⟨A, c, rfl, h3⟩
theorem proc_parts {tr : Prop} {w : World} {S : Nat → Prop} {p : AProc} {cs : List Value} (h : RProc.rd tr w S p cs) :
    ∃ A c B d, cs = [.int .i64 p.1, .bool p.2.1, .int .i64 p.2.2.1, .bool p.2.2.2.1, .string p.2.2.2.2.1, .slice A p.2.2.2.2.2.1.length c, .slice B p.2.2.2.2.2.2.1.length d, .int .i64 p.2.2.2.2.2.2.2] ∧
      Rec.term.sl.rd tr w S p.2.2.2.2.2.1 [.slice A p.2.2.2.2.2.1.length c] ∧ Rec.int.sl.rd tr w S p.2.2.2.2.2.2.1 [.slice B p.2.2.2.2.2.2.1.length d] := by
  obtain ⟨_, _, _, _, rfl, p0, q0, i0, j0, -⟩ := h
  obtain ⟨_, _, _, _, rfl, p1, q1, i1, j1, -⟩ := q0
  obtain ⟨_, _, _, _, rfl, p2, q2, i2, j2, -⟩ := q1
  obtain ⟨_, _, _, _, rfl, p3, q3, i3, j3, -⟩ := q2
  obtain ⟨_, _, _, _, rfl, p4, q4, i4, j4, -⟩ := q3
  obtain ⟨_, _, _, _, rfl, p5, q5, i5, j5, -⟩ := q4
  obtain ⟨_, _, _, _, rfl, p6, q6, i6, j6, -⟩ := q5
  have h5 := Rec.term.sl.mono p5 (fun b h => j0 b (j1 b (j2 b (j3 b (j4 b (i5 b h))))))
  have h6 := Rec.int.sl.mono p6 (fun b h => j0 b (j1 b (j2 b (j3 b (j4 b (j5 b (i6 b h)))))))
  obtain rfl := p0
  obtain rfl := p1
  obtain rfl := p2
  obtain rfl := p3
  obtain rfl := p4
  obtain rfl := q6
  obtain ⟨A, c, rfl, -⟩ := id h5
  obtain ⟨B, d, rfl, -⟩ := id h6
  exact ⟨A, c, B, d, rfl, h5, h6⟩
theorem row_cell1 {w : World} {b o i : Nat} {v : Value} (h : ∀ t, t < 1 → w.cell? ⟨b, o + i * 1 + t, none⟩ = [v][t]?) : w.cell? ⟨b, o + i, none⟩ = some v := by
  have h1 := h 0 (by decide)
  rw [Nat.mul_one, Nat.add_zero] at h1
  exact h1
/-- The cells of a row of numbers. -/
theorem int_cell {w : World} {S : Nat → Prop} {xs : List Int} {A : Option Addr} (h : SlOf Rec.int.k (Rec.int.rd False w) False w S xs A) (i : Nat) (hi : i < xs.length) : ∃ b o, A = some ⟨b, o, none⟩ ∧ S b ∧ ∀ (j : Nat), j < xs.length → w.cell? ⟨b, o + j, none⟩ = some (.int .i64 (xs.getD j 0)) := by
  rcases h with h0 | ⟨b, o, e, hb, f, hf, -, hrow⟩
  · rw [h0] at hi; exact absurd hi (Nat.not_lt_zero _)
  · refine ⟨b, o, e, hb, fun j hj => ?_⟩
    obtain ⟨cs, hr, hc⟩ := hrow j hj
    obtain rfl := hr
    rw [List.getD_eq_getElem?_getD, List.getElem?_eq_getElem hj]
    exact row_cell1 hc
theorem inClock (n : Int) (w : World) : Calls Try.prog 106 #[.int .i64 n] w fun e w' => e = .returned (.bool (clkB n)) ∧ w = w' := by
  by_cases h : 0 ≤ n
  · have hd : decide (0 ≤ n) = true := decide_eq_true h
    go_enter Try.func106, Try.ntmps106
    go_wp2
    go_ret
    exact ⟨by simp [clkB, h], rfl⟩
  · have hd : decide (0 ≤ n) = false := decide_eq_false h
    go_enter Try.func106, Try.ntmps106
    go_wp2
    go_ret
    exact ⟨ret_bool (by rw [clkB]; simp; omega), rfl⟩
set_option maxRecDepth 100000 in
set_option maxHeartbeats 2000000 in
theorem rising (strict : Bool) (xs : List Int) (v : Value) (w : World) (h : Rec.int.sl.rd False w (Old w) xs [v]) (hn : xs.length ≤ 1048576) :
    Calls Try.prog 107 #[v, .bool strict] w fun e w' => e = .returned (.bool (riseB strict xs)) ∧ w = w' := by
  obtain ⟨A, cap, he, hcap, hs⟩ := h
  injection he with he _
  subst he
  have HS := Aside.mk hs
  have HBAD : Aside (∀ j, j < xs.length → stepB strict xs j = false → riseB strict xs = false) := ⟨fun j hj h => range_bad hj h⟩
  have HGOOD : Aside ((∀ j, j < xs.length → stepB strict xs j = true) → riseB strict xs = true) := ⟨fun h => range_good h⟩
  generalize riseB strict xs = res at HBAD HGOOD ⊢
  obtain ⟨n, hln⟩ : ∃ n, n = xs.length := ⟨_, rfl⟩
  have HN := Aside.mk hln
  rw [← hln] at hn hcap ⊢
  clear hs hln
  go_enter Try.func107, Try.ntmps107
  go_wp2_with fail
  go_loopw [9] (fun iv wr => ∃ i : Nat, i ≤ n ∧ iv = .int .i64 i ∧ Aside (∀ j, j < i → stepB strict xs j = true) ∧ wr = w) (fun iv _ => n - (intOf iv).toNat)
  case atStart => exact ⟨0, Nat.zero_le _, rfl, ⟨fun j h => absurd h (Nat.not_lt_zero _)⟩, rfl⟩
  case round =>
    obtain ⟨i, hi, rfl, hall, rfl⟩ := hrel
    by_cases hlt : i < n
    rotate_left
    · obtain rfl : i = n := by omega
      have E : Aside (res = true) := ⟨HGOOD.out (fun j hj => hall.out j (by rw [HN.out]; exact hj))⟩
      go_wp2
      go_ret
      exact ⟨ret_bool E.out.symm, rfl⟩
    have hlt1 : i < xs.length := by rw [← HN.out]; exact hlt
    obtain ⟨b, o, rfl, hb, hc⟩ := int_cell HS.out i hlt1
    have d0 := hc i hlt1
    have HC := Aside.mk hc
    obtain ⟨x, hx⟩ : ∃ x, x = xs.getD i 0 := ⟨_, rfl⟩
    rw [← hx] at d0
    have HX := Aside.mk hx
    clear hc hx hb
    by_cases c1 : x < 1
    · have E : Aside (res = false) := ⟨HBAD.out i hlt1 (by simp only [stepB, posB, ← HX.out, decide_eq_false (show ¬ 1 ≤ x by omega), Bool.false_and])⟩
      go_wp2
      go_ret
      exact ⟨ret_bool E.out.symm, rfl⟩
    by_cases c2 : 1000000000000000 < x
    · have E : Aside (res = false) := ⟨HBAD.out i hlt1 (by simp only [stepB, posB, ← HX.out, decide_eq_false (show ¬ x ≤ 1000000000000000 by omega), Bool.false_and, Bool.and_false])⟩
      go_wp2
      go_ret
      exact ⟨ret_bool E.out.symm, rfl⟩
    have HP : Aside (posB (xs.getD i 0) = true) := ⟨by rw [← HX.out, posB, decide_eq_true (show 1 ≤ x by omega), decide_eq_true (show x ≤ 1000000000000000 by omega)]; rfl⟩
    cases strict
    · have hall2 : Aside (∀ j, j < i + 1 → stepB false xs j = true) := ⟨fun j hj => by
        by_cases e : j = i
        · subst e; rw [stepB, HP.out]; rfl
        · exact hall.out j (by omega)⟩
      go_wp2_with fail
      go_roundw
      case rel => exact ⟨i + 1, by omega, by go_num, hall2, by first | rfl | trivial⟩
      case measure => first | (simp [intOf]; done) | (simp [intOf]; omega)
    by_cases i0 : i = 0
    · subst i0
      have d00 : wr.cell? ⟨b, o, none⟩ = some (.int .i64 x) := d0
      clear d0
      have hall2 : Aside (∀ j, j < 0 + 1 → stepB true xs j = true) := ⟨fun j hj => by
        obtain rfl : j = 0 := by omega
        rw [stepB, HP.out]; rfl⟩
      go_wp2_with fail
      go_roundw
      case rel => exact ⟨0 + 1, by omega, by go_num, hall2, by first | rfl | trivial⟩
      case measure => first | (simp [intOf]; done) | (simp [intOf]; omega)
    obtain ⟨p, rfl⟩ : ∃ p, i = p + 1 := ⟨i - 1, by omega⟩
    have d1 := HC.out p (by omega)
    obtain ⟨y, hy⟩ : ∃ y, y = xs.getD p 0 := ⟨_, rfl⟩
    rw [← hy] at d1
    have HY := Aside.mk hy
    have u1 : (p : Int) < n := by omega
    clear hy
    by_cases c3 : x ≤ y
    · have E : Aside (res = false) := ⟨HBAD.out (p + 1) hlt1 (by rw [stepB, HP.out, Nat.add_sub_cancel, ← HX.out, ← HY.out, decide_eq_true c3]; simp)⟩
      go_wp2
      go_ret
      exact ⟨ret_bool E.out.symm, rfl⟩
    · have hall2 : Aside (∀ j, j < p + 1 + 1 → stepB true xs j = true) := ⟨fun j hj => by
        by_cases e : j = p + 1
        · subst e; rw [stepB, HP.out, Nat.add_sub_cancel, ← HX.out, ← HY.out, decide_eq_false c3]; simp
        · exact hall.out j (by omega)⟩
      go_wp2_with fail
      go_roundw
      case rel => exact ⟨p + 1 + 1, by omega, by go_num, hall2, by first | rfl | trivial⟩
      case measure => first | (simp [intOf]; done) | (simp [intOf]; omega)
end Go.Proofs.Ytdldgchkinflmaa.Fn
