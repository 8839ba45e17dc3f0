/- Walks of the reference's BitsCut and BitGet. Conditions: those of each theorem. -/
import Derived.Test.YtjjnlbimegabpaaBitG6
set_option linter.unusedVariables false
namespace Go.Proofs.Ytjjnlbimegabpaa.Fn
open Go.RowKit Go.Proofs.Ytjjnlbimegabpaa.Lib Go.Proofs.Ytjjnlbimegabpaa.Plan

def CutOK (n : Int) (s : ByteArray) (start size : Int) : Prop := okB n s = true ∧ 0 ≤ size ∧ 0 ≤ start ∧ start ≤ n ∧ size ≤ n - start
theorem CutOK.bad {n : Int} {s : ByteArray} {start size : Int} (h : ¬ CutOK n s start size) : okB n s = false ∨ (okB n s = true ∧ (start < 0 ∨ (0 ≤ start ∧ size < 0) ∨ (0 ≤ start ∧ 0 ≤ size ∧ n < start) ∨ (0 ≤ start ∧ 0 ≤ size ∧ start ≤ n ∧ n - start < size))) := by
  unfold CutOK at h
  cases hb : okB n s
  · exact .inl rfl
  · rw [hb] at h
    simp only [true_and] at h
    exact .inr ⟨rfl, by omega⟩
set_option maxRecDepth 100000 in
theorem sBitsCut_bad (n : Int) (s : ByteArray) (start size : Int) (w : World) (h : ¬ CutOK n s start size) (hz : s.size ≤ 140737488355328) :
    Calls Try.prog 58 #[.agg #[.int .i64 n, .string s], .int .i64 start, .int .i64 size] w fun e w' => e = .returned (.tuple #[.agg #[.int .i64 0, .string ⟨#[]⟩], .int .i64 1]) ∧ Below w.heap.size w w' := by
  have K0 := Aside.mk ((Blk.newAt w 27 [.int .i64 n, .string s] rfl).alloc (.cells #[.int .i64 0, .string ⟨#[]⟩] 27))
  have KR := Aside.mk (Blk.newAt (w.alloc (.cells #[.int .i64 n, .string s] 27)) 27 [.int .i64 0, .string ⟨#[]⟩] (g := w.heap.size + 1) (by simp))
  have C0 := Aside.mk (((Below.refl w.heap.size w).alloc (Nat.le_refl _) (.cells #[.int .i64 n, .string s] 27)).alloc (by simp) (.cells #[.int .i64 0, .string ⟨#[]⟩] 27))
  rcases CutOK.bad h with hb | ⟨hb, hc⟩
  · have HB := Aside.mk hb
    clear hb h
    go_enter Try.func58, Try.ntmps58
    go_wp2_with fail
    refine (sBitsOK n s _ hz).mono ?_
    rintro e w1 ⟨rfl, hb1⟩
    rw [HB.out]
    have C1 := Aside.mk (below_later C0.out hb1)
    have K1 := Aside.mk (KR.out.below hb1)
    clear hb1
    go_wp2_with (refine wpList_store_blk rfl 27 _ _ rfl (w.heap.size + 1) [.int .i64 0, .string ⟨#[]⟩] rfl rfl 27 _ K1.out (by kernel_rfl) rfl rfl ?_; intro w3 k3 hg3; have K4 := Aside.mk k3; have C4 := Aside.mk (below_grown C1.out hg3 (by omega)); clear k3 hg3)
    refine bodyPost_ret (res_ct rfl _ _ (w.heap.size + 1) 27 [.int .i64 0, .string ⟨#[]⟩] _ rfl K4.out Try.underlying27 rfl (by kernel_rfl)) rfl ⟨rfl, C4.out⟩
  · have HB := Aside.mk hb
    obtain ⟨f1, f2, f3⟩ := okB_fit hb
    clear hb h f3
    rcases hc with h1 | ⟨h1, h2⟩ | ⟨h1, h2, h3⟩ | ⟨h1, h2, h3, h4⟩
    all_goals
      go_enter Try.func58, Try.ntmps58
      go_wp2_with fail
      refine (sBitsOK n s _ hz).mono ?_
      rintro e w1 ⟨rfl, hb1⟩
      rw [HB.out]
      have c0 := (K0.out.below hb1).cell 0
      have C1 := Aside.mk (below_later C0.out hb1)
      have K1 := Aside.mk (KR.out.below hb1)
      clear hb1
      go_wp2_with (refine wpList_store_blk rfl 27 _ _ rfl (w.heap.size + 1) [.int .i64 0, .string ⟨#[]⟩] rfl rfl 27 _ K1.out (by kernel_rfl) rfl rfl ?_; intro w3 k3 hg3; have K4 := Aside.mk k3; have C4 := Aside.mk (below_grown C1.out hg3 (by omega)); clear k3 hg3)
      refine bodyPost_ret (res_ct rfl _ _ (w.heap.size + 1) 27 [.int .i64 0, .string ⟨#[]⟩] _ rfl K4.out Try.underlying27 rfl (by kernel_rfl)) rfl ⟨rfl, C4.out⟩
end Go.Proofs.Ytjjnlbimegabpaa.Fn
