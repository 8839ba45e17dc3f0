/- Walks of the first refusal of LinkRun. -/
import Derived.Test.YtlopbheahedofaaLinkJ
set_option linter.unusedVariables false
namespace Go.Proofs.Ytlopbheahedofaa.Fn
open Go Go.RowKit Go.Proofs.Ytlopbheahedofaa.Lib Go.Proofs.Ytlopbheahedofaa.Plan
attribute [local go_sem] look_tmp look_const look_func look_global lookT_nil lookT_hit lookT_miss

theorem zeroR_rd (w : World) (S : Nat → Prop) : RLinkReport.rd True w S zeroR [.int .i64 0, .int .i64 0, .int .i64 0, .slice none 0 0, .slice none 0 0] := by
  have h1 : Rec.str.sl.rd True w (fun _ => False) ([] : List ByteArray) [.slice none 0 0] := ⟨none, 0, rfl, Nat.le_refl _, Or.inl rfl⟩
  have h2 : RPacket.sl.rd True w (fun _ => False) ([] : List APacket) [.slice none 0 0] := ⟨none, 0, rfl, Nat.le_refl _, Or.inl rfl⟩
  have h3 : (Rec.str.sl.pair RPacket.sl).rd True w S ([], []) ([.slice none 0 0] ++ [.slice none 0 0]) := Rec.mkpair h1 h2 ⟨fun _ h => h.elim, fun _ h => h.elim, fun _ _ h => h.elim⟩
  have h4 := Rec.mkpair (A := Rec.int) (tr := True) (w := w) (S := S) (Sa := fun _ => False) (a := 0) (ca := [.int .i64 0]) rfl h3 ⟨fun _ h => h.elim, fun _ h => h, fun _ _ h => h.elim⟩
  have h5 := Rec.mkpair (A := Rec.int) (tr := True) (w := w) (S := S) (Sa := fun _ => False) (a := 0) (ca := [.int .i64 0]) rfl h4 ⟨fun _ h => h.elim, fun _ h => h, fun _ _ h => h.elim⟩
  exact Rec.mkpair (A := Rec.int) (tr := True) (w := w) (S := S) (Sa := fun _ => False) (a := 0) (ca := [.int .i64 0]) rfl h5 ⟨fun _ h => h.elim, fun _ h => h, fun _ _ h => h.elim⟩
set_option maxRecDepth 100000 in
set_option maxHeartbeats 4000000 in
theorem iRun_off (win : Int) (A : Option Addr) (n cap : Nat) (w : World) (hn : n ≤ 1048576) (h : ¬ (1 ≤ win ∧ win ≤ 16 ∧ n ≤ 400)) :
    Calls Try.prog 9 #[.int .i64 win, .slice A n cap] w fun e w' => e = .returned (.tuple #[.agg #[.int .i64 0, .int .i64 0, .int .i64 0, .slice none 0 0, .slice none 0 0], .int .i64 1]) ∧ Below w.heap.size w w' := by
  by_cases h1 : win < 1
  · skip
    go_enter Try.func9, Try.ntmps9
    go_wp2_with fail
    all_goals exact bodyPost_ret (res_ct rfl _ _ w.heap.size 30 [.int .i64 0, .int .i64 0, .int .i64 0, .slice none 0 0, .slice none 0 0] _ rfl (Blk.new w 30 [.int .i64 0, .int .i64 0, .int .i64 0, .slice none 0 0, .slice none 0 0]) Try.underlying30 rfl (by kernel_rfl)) rfl ⟨rfl, by go_grown⟩
  by_cases h2 : 16 < win
  · skip
    go_enter Try.func9, Try.ntmps9
    go_wp2_with fail
    all_goals exact bodyPost_ret (res_ct rfl _ _ w.heap.size 30 [.int .i64 0, .int .i64 0, .int .i64 0, .slice none 0 0, .slice none 0 0] _ rfl (Blk.new w 30 [.int .i64 0, .int .i64 0, .int .i64 0, .slice none 0 0, .slice none 0 0]) Try.underlying30 rfl (by kernel_rfl)) rfl ⟨rfl, by go_grown⟩
  have h3 : (400 : Int) < n := by omega
  · skip
    go_enter Try.func9, Try.ntmps9
    go_wp2_with fail
    all_goals exact bodyPost_ret (res_ct rfl _ _ w.heap.size 30 [.int .i64 0, .int .i64 0, .int .i64 0, .slice none 0 0, .slice none 0 0] _ rfl (Blk.new w 30 [.int .i64 0, .int .i64 0, .int .i64 0, .slice none 0 0, .slice none 0 0]) Try.underlying30 rfl (by kernel_rfl)) rfl ⟨rfl, by go_grown⟩
set_option maxRecDepth 100000 in
set_option maxHeartbeats 4000000 in
theorem sRun_off (win : Int) (A : Option Addr) (n cap : Nat) (w : World) (hn : n ≤ 1048576) (h : ¬ (1 ≤ win ∧ win ≤ 16 ∧ n ≤ 400)) :
    Calls Try.prog 8 #[.int .i64 win, .slice A n cap] w fun e w' => e = .returned (.tuple #[.agg #[.int .i64 0, .int .i64 0, .int .i64 0, .slice none 0 0, .slice none 0 0], .int .i64 1]) ∧ Below w.heap.size w w' := by
  by_cases h1 : win < 1
  · skip
    go_enter Try.func8, Try.ntmps8
    go_wp2_with fail
    refine (between win 1 16 _).mono ?_
    rintro e w1 ⟨rfl, rfl⟩
    rw [show (decide ((1 : Int) ≤ win) && decide (win ≤ 16)) = false by first | (simp; done) | (simp; omega)]
    go_wp2_with fail
    all_goals exact bodyPost_ret (res_ct rfl _ _ w.heap.size 30 [.int .i64 0, .int .i64 0, .int .i64 0, .slice none 0 0, .slice none 0 0] _ rfl (Blk.new w 30 [.int .i64 0, .int .i64 0, .int .i64 0, .slice none 0 0, .slice none 0 0]) Try.underlying30 rfl (by kernel_rfl)) rfl ⟨rfl, by go_grown⟩
  by_cases h2 : 16 < win
  · skip
    go_enter Try.func8, Try.ntmps8
    go_wp2_with fail
    refine (between win 1 16 _).mono ?_
    rintro e w1 ⟨rfl, rfl⟩
    rw [show (decide ((1 : Int) ≤ win) && decide (win ≤ 16)) = false by first | (simp; done) | (simp; omega)]
    go_wp2_with fail
    all_goals exact bodyPost_ret (res_ct rfl _ _ w.heap.size 30 [.int .i64 0, .int .i64 0, .int .i64 0, .slice none 0 0, .slice none 0 0] _ rfl (Blk.new w 30 [.int .i64 0, .int .i64 0, .int .i64 0, .slice none 0 0, .slice none 0 0]) Try.underlying30 rfl (by kernel_rfl)) rfl ⟨rfl, by go_grown⟩
  have h3 : (400 : Int) < n := by omega
  · skip
    go_enter Try.func8, Try.ntmps8
    go_wp2_with fail
    refine (between win 1 16 _).mono ?_
    rintro e w1 ⟨rfl, rfl⟩
    rw [show (decide ((1 : Int) ≤ win) && decide (win ≤ 16)) = true by first | (simp; done) | (simp; omega)]
    go_wp2_with fail
    all_goals exact bodyPost_ret (res_ct rfl _ _ w.heap.size 30 [.int .i64 0, .int .i64 0, .int .i64 0, .slice none 0 0, .slice none 0 0] _ rfl (Blk.new w 30 [.int .i64 0, .int .i64 0, .int .i64 0, .slice none 0 0, .slice none 0 0]) Try.underlying30 rfl (by kernel_rfl)) rfl ⟨rfl, by go_grown⟩
end Go.Proofs.Ytlopbheahedofaa.Fn
