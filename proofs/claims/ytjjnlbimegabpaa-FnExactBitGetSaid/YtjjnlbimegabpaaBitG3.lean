/- Walk of the program's BitGet. Conditions: those of each theorem. -/
import Derived.Test.YtjjnlbimegabpaaBitG2
set_option linter.unusedVariables false
namespace Go.Proofs.Ytjjnlbimegabpaa.Fn
open Go.RowKit Go.Proofs.Ytjjnlbimegabpaa.Lib Go.Proofs.Ytjjnlbimegabpaa.Plan

def GetOK (n : Int) (s : ByteArray) (start size : Int) : Prop := okB n s = true ∧ 0 ≤ size ∧ size ≤ 49 ∧ 0 ≤ start ∧ start ≤ n ∧ size ≤ n - start
theorem okB_fit {n : Int} {s : ByteArray} (h : okB n s = true) : 0 ≤ n ∧ n ≤ 32000 ∧ (s.size : Int) = (n + 7) / 8 := by
  unfold okB at h
  simp only [Bool.and_eq_true, decide_eq_true_eq] at h
  exact h.1
theorem GetOK.bad {n : Int} {s : ByteArray} {start size : Int} (h : ¬ GetOK n s start size) : okB n s = false ∨ (okB n s = true ∧ (size < 0 ∨ (0 ≤ size ∧ 49 < size) ∨ (0 ≤ size ∧ size ≤ 49 ∧ start < 0) ∨ (0 ≤ size ∧ size ≤ 49 ∧ 0 ≤ start ∧ n < start) ∨ (0 ≤ size ∧ size ≤ 49 ∧ 0 ≤ start ∧ start ≤ n ∧ n - start < size))) := by
  unfold GetOK at h
  cases hb : okB n s
  · exact .inl rfl
  · rw [hb] at h
    simp only [true_and] at h
    exact .inr ⟨rfl, by omega⟩
set_option maxRecDepth 100000 in
theorem iBitGet_bad (n : Int) (s : ByteArray) (start size : Int) (signed little : Bool) (w : World) (h : ¬ GetOK n s start size) (hz : s.size ≤ 140737488355328) :
    Calls Try.prog 36 #[.agg #[.int .i64 n, .string s], .int .i64 start, .int .i64 size, .bool signed, .bool little] w fun e w' => e = .returned (.tuple #[.int .i64 0, .int .i64 1]) ∧ Below w.heap.size w w' := by
  have K0 := Aside.mk (Blk.newAt w 27 [.int .i64 n, .string s] rfl)
  have C0 := Aside.mk ((Below.refl w.heap.size w).alloc (Nat.le_refl _) (.cells #[.int .i64 n, .string s] 27))
  rcases GetOK.bad h with hb | ⟨hb, hc⟩
  · have HB := Aside.mk hb
    clear hb h
    go_enter Try.func36, Try.ntmps36
    go_wp2_with fail
    refine (iBitsOK n s _ hz).mono ?_
    rintro e w1 ⟨rfl, hb1⟩
    rw [HB.out]
    have C1 := Aside.mk (below_later C0.out hb1)
    clear hb1
    go_wp2
    go_ret2
    exact ⟨rfl, C1.out⟩
  · have HB := Aside.mk hb
    obtain ⟨f1, f2, f3⟩ := okB_fit hb
    clear hb h f3
    rcases hc with h1 | ⟨h1, h2⟩ | ⟨h1, h2, h3⟩ | ⟨h1, h2, h3, h4⟩ | ⟨h1, h2, h3, h4, h5⟩
    all_goals
      go_enter Try.func36, Try.ntmps36
      go_wp2_with fail
      refine (iBitsOK n s _ hz).mono ?_
      rintro e w1 ⟨rfl, hb1⟩
      rw [HB.out]
      have K1 := K0.out.below hb1
      have c0 := K1.cell 0
      have C1 := Aside.mk (below_later C0.out hb1)
      clear hb1 K1
      go_wp2
      go_ret2
      exact ⟨rfl, C1.out⟩
set_option maxRecDepth 100000 in
theorem iBitGet_ok (n : Int) (s : ByteArray) (start size : Nat) (signed little : Bool) (w : World) (h : GetOK n s start size) :
    Calls Try.prog 36 #[.agg #[.int .i64 n, .string s], .int .i64 start, .int .i64 size, .bool signed, .bool little] w fun e w' => e = .returned (.tuple #[.int .i64 (signI (fieldN (fieldR s start size) little) size signed), .int .i64 0]) ∧ Below w.heap.size w w' := by
  have K0 := Aside.mk (Blk.newAt w 27 [.int .i64 n, .string s] rfl)
  have C0 := Aside.mk ((Below.refl w.heap.size w).alloc (Nat.le_refl _) (.cells #[.int .i64 n, .string s] 27))
  obtain ⟨hb, h1, h2, h3, h4, h5⟩ := h
  obtain ⟨f1, f2, f3⟩ := okB_fit hb
  have HB := Aside.mk hb
  have HF := Aside.mk f3
  have hz : s.size ≤ 5000 := by omega
  clear hb f3
  go_enter Try.func36, Try.ntmps36
  go_wp2_with fail
  refine (iBitsOK n s _ (by omega)).mono ?_
  rintro e w1 ⟨rfl, hb1⟩
  rw [HB.out]
  have K1 := Aside.mk (K0.out.below hb1)
  have c0 := K1.out.cell 0
  have C1 := Aside.mk (below_later C0.out hb1)
  clear hb1 K0 C0
  go_wp2_with (first | (refine wpList_load_blk rfl 27 _ rfl w.heap.size [.int .i64 n, .string s] rfl 27 _ K1.out Try.underlying27 rfl (by kernel_rfl) ?_) | fail)
  refine (get n s start size signed little _ (by omega) (by omega) (by have := HF.out; omega)).mono ?_
  rintro e w2 ⟨rfl, hb2⟩
  have C2 := Aside.mk (below_later C1.out hb2)
  clear hb2
  go_wp2
  go_ret2
  exact ⟨rfl, C2.out⟩
end Go.Proofs.Ytjjnlbimegabpaa.Fn
