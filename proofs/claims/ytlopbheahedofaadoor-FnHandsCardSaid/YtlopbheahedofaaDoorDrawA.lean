/- The draws' cursor: byte, pick, size. The draws' cursor: pick, size. Conditions: those of each theorem. -/
import Derived.Test.YtlopbheahedofaaDoorEnv
import Derived.Test.YtlopbheahedofaaDoorMark
section
set_option linter.unusedVariables false
namespace Go.Proofs.YtlopbheahedofaaDoor.Fn
open Go.RowKit Go.Proofs.YtlopbheahedofaaDoor.Lib Go.Proofs.YtlopbheahedofaaDoor.Plan
attribute [local go_sem] look_tmp look_const look_func look_global lookT_nil lookT_hit lookT_miss

/-- The code's bytes. -/
def CodeAt (w : World) (g : Nat) (A : Option Addr) (n : Nat) : Prop :=
  ∀ j, j < n → ∃ b o x, A = some ⟨b, o, none⟩ ∧ b ≠ g ∧ b < w.heap.size ∧ w.cell? ⟨b, o + j, none⟩ = some (.int .u8 x) ∧ 0 ≤ x ∧ x ≤ 255
/-- A cursor of draws in block g, with at most so many bytes taken. -/
def CurOK (w : World) (g : Nat) (A : Option Addr) (n c : Nat) (top : Int) : Prop :=
  ∃ k seed : Int, Blk w g 56 [.slice A n c, .int .i64 k, .int .i64 seed] ∧ 0 ≤ k ∧ k ≤ top ∧ 0 ≤ seed ∧ seed < 2147483648 ∧ CodeAt w g A n
/-- Block g alone is written. -/
def AtG (g : Nat) : Nat → Prop := fun k => k = g
theorem but_drew {S : Nat → Prop} {a b : World} (h : But S a b) : But S a b.drew := ⟨h.os, h.tape, h.output, h.size, h.block⟩
theorem CodeAt.but {w w' : World} {g : Nat} {A : Option Addr} {n : Nat} (h : CodeAt w g A n) (hb : But (AtG g) w w') : CodeAt w' g A n := by
  intro j hj
  obtain ⟨b, o, x, e, hne, hlt, hc, h1, h2⟩ := h j hj
  exact ⟨b, o, x, e, hne, Nat.lt_of_lt_of_le hlt hb.size, (World.cell?_of_block (w := w) (hb.block b hlt hne)).trans hc, h1, h2⟩
theorem CurOK.mono {w : World} {g : Nat} {A : Option Addr} {n c : Nat} {t t' : Int} (h : CurOK w g A n c t) (ht : t ≤ t') : CurOK w g A n c t' := by
  obtain ⟨k, s, h1, h2, h3, h4⟩ := h
  exact ⟨k, s, h1, h2, by omega, h4⟩
/-- What a draw of a number is to do. -/
def Drawn (g : Nat) (A : Option Addr) (n c : Nat) (top : Int) (w : World) (m : Int) : Ending → World → Prop := fun e w' =>
  ∃ r : Int, e = .returned (.int .i64 r) ∧ 0 ≤ r ∧ r ≤ m ∧ But (AtG g) w w' ∧ CurOK w' g A n c top
set_option maxRecDepth 100000 in
set_option maxHeartbeats 4000000 in
theorem curByte (g : Nat) (A : Option Addr) (n c : Nat) (top : Int) (w : World) (h : CurOK w g A n c top) (hn : n ≤ 1048576) (ht : top ≤ 1099511627776) :
    Calls Tryd.prog 34 #[.pointer (some ⟨g, 0, none⟩)] w (Drawn g A n c (top + 1) w 255) := by
  obtain ⟨k, seed, hb, h0, h1, h2, h3, hcode⟩ := h
  have HC := Aside.mk hcode
  obtain ⟨k, rfl⟩ := Int.eq_ofNat_of_zero_le h0
  obtain ⟨w1, hw1⟩ : ∃ w1, w1 = w.setCell ⟨g, 1, none⟩ (.int .i64 ((k : Int) + 1)) := ⟨_, rfl⟩
  have K : Aside (Blk w1 g 56 [.slice A n c, .int .i64 ((k : Int) + 1), .int .i64 seed]) := ⟨by rw [hw1]; exact hb.set 1 _⟩
  have BT : Aside (But (AtG g) w w1) := ⟨by rw [hw1]; exact (But.refl _ _).set (show AtG g g from rfl) _⟩
  have HW1 := Aside.mk hw1
  have y0 := hb.cell 0
  have y1 := hb.cell 1
  have y2 := hb.cell 2
  simp only [List.getElem?_cons_zero, List.getElem?_cons_succ] at y0 y1 y2
  have f1 := hb.free 1
  clear hb hw1 hcode
  go_enter Tryd.func34, Tryd.ntmps34
  go_wp2_with fail
  rw [← HW1.out]
  clear y0 y1 y2 f1
  have y0 := K.out.cell 0
  have y1 := K.out.cell 1
  have y2 := K.out.cell 2
  simp only [List.getElem?_cons_zero, List.getElem?_cons_succ] at y0 y1 y2
  have lg : g < w1.heap.size := K.out.lt
  have e1 : IntKind.i64.wrap (4 * (n : Int)) = 4 * n := by rw [IntKind.wrap_i64]; omega
  have e2 : IntKind.i64.wrap (4000 + 4 * (n : Int)) = 4000 + 4 * n := by rw [IntKind.wrap_i64]; omega
  by_cases c1 : 4000 + 4 * (n : Int) < (k : Int) + 1
  · skip
    refine region_env [(0, true), (1, true), (2, true), (3, true), (4, true), (5, true), (6, true), (7, true), (8, true), (9, true), (10, true), (11, true)] (fun w' => Below w1.heap.size w1 w') 83 rfl (by kernel_rfl) (by kernel_rfl) (fun _ _ d _ _ h => by cases d <;> exact h) ((Below.refl _ _).drew) (fun ops fr HFR HSZ hl => ?_)
    have hl_0 := ops_start hl
    clear hl
    obtain ⟨H0, hl_1⟩ := ops_next 0 1 rfl hl_0
    clear hl_0
    obtain ⟨H1, hl_2⟩ := ops_next 1 2 rfl hl_1
    clear hl_1
    obtain ⟨H2, hl_3⟩ := ops_next 2 3 rfl hl_2
    clear hl_2
    obtain ⟨H3, hl_4⟩ := ops_next 3 4 rfl hl_3
    clear hl_3
    obtain ⟨H4, hl_5⟩ := ops_next 4 5 rfl hl_4
    clear hl_4
    obtain ⟨H5, hl_6⟩ := ops_next 5 6 rfl hl_5
    clear hl_5
    obtain ⟨H6, hl_7⟩ := ops_next 6 7 rfl hl_6
    clear hl_6
    obtain ⟨H7, hl_8⟩ := ops_next 7 8 rfl hl_7
    clear hl_7
    obtain ⟨H8, hl_9⟩ := ops_next 8 9 rfl hl_8
    clear hl_8
    obtain ⟨H9, hl_10⟩ := ops_next 9 10 rfl hl_9
    clear hl_9
    obtain ⟨H10, hl_11⟩ := ops_next 10 11 rfl hl_10
    clear hl_10
    obtain ⟨H11, hl_12⟩ := ops_next 11 12 rfl hl_11
    clear hl_11
    clear hl_12
    have x_0 : ext fr 0 = _ := congrArg (fun a => Act.eval a (.tmp 0)) HFR.out
    conv at x_0 => rhs; simp only [Act.eval, Array.getD_eq_getD_getElem?, List.getElem?_toArray, List.getElem?_cons_succ, List.getElem?_cons_zero, Option.getD_some]
    refine env_yes HSZ H0.out ?_ (fun w' hS => ?_) ?_
    rotate_left
    (go_simp
     rfl)
    refine env_yes HSZ H1.out ?_ (fun w' hS => ?_) ?_
    rotate_left
    (go_simp
     rfl)
    refine env_yes HSZ H2.out ?_ (fun w' hS => ?_) ?_
    rotate_left
    (go_simp
     rfl)
    refine env_yes HSZ H3.out ?_ (fun w' hS => ?_) ?_
    rotate_left
    (have h := (hS.cell (p := ⟨g, 1, none⟩) lg).trans y1
     go_simp
     rfl)
    refine env_yes HSZ H4.out ?_ (fun w' hS => ?_) ?_
    rotate_left
    (go_simp
     rfl)
    refine env_yes HSZ H5.out ?_ (fun w' hS => ?_) ?_
    rotate_left
    (go_simp
     rfl)
    refine env_yes HSZ H6.out ?_ (fun w' hS => ?_) ?_
    rotate_left
    (go_simp
     rfl)
    refine env_yes HSZ H7.out ?_ (fun w' hS => ?_) ?_
    rotate_left
    (have h := (hS.cell (p := ⟨g, 0, none⟩) lg).trans y0
     go_simp
     rfl)
    refine env_yes HSZ H8.out ?_ (fun w' hS => ?_) ?_
    rotate_left
    (go_simp
     rfl)
    refine env_yes HSZ H9.out ?_ (fun w' hS => ?_) ?_
    rotate_left
    (go_simp
     rfl)
    refine env_yes HSZ H10.out ?_ (fun w' hS => ?_) ?_
    rotate_left
    (go_simp
     rfl)
    refine env_yes HSZ H11.out ?_ (fun w' hS => ?_) ?_
    rotate_left
    (go_simp
     rfl)
    refine env_end ?_
    have hfr := HFR.out
    clear HFR HSZ H0 H1 H2 H3 H4 H5 H6 H7 H8 H9 H10 H11 x_0
    subst hfr
    simp only [putAll, Act.put, List.setIfInBounds_toArray, List.set_cons_succ, List.set_cons_zero]
    clear e1 e2
    go_wp2_with fail
    go_ret
    exact ⟨0, rfl, by omega, by omega, ⟨BT.out.os, BT.out.tape, BT.out.output, BT.out.size, BT.out.block⟩, (k : Int) + 1, seed, K.out, by omega, by omega, h2, h3, HC.out.but (but_drew BT.out)⟩
  have d1 : decide (4000 + 4 * (n : Int) < (k : Int) + 1) = false := decide_eq_false c1
  refine region_env [(0, true), (1, true), (2, true), (3, true), (4, true), (5, true), (6, true), (7, true), (8, true), (9, true), (10, true), (11, true)] (fun w' => Below w1.heap.size w1 w') 83 rfl (by kernel_rfl) (by kernel_rfl) (fun _ _ d _ _ h => by cases d <;> exact h) ((Below.refl _ _).drew) (fun ops fr HFR HSZ hl => ?_)
  have hl_0 := ops_start hl
  clear hl
  obtain ⟨H0, hl_1⟩ := ops_next 0 1 rfl hl_0
  clear hl_0
  obtain ⟨H1, hl_2⟩ := ops_next 1 2 rfl hl_1
  clear hl_1
  obtain ⟨H2, hl_3⟩ := ops_next 2 3 rfl hl_2
  clear hl_2
  obtain ⟨H3, hl_4⟩ := ops_next 3 4 rfl hl_3
  clear hl_3
  obtain ⟨H4, hl_5⟩ := ops_next 4 5 rfl hl_4
  clear hl_4
  obtain ⟨H5, hl_6⟩ := ops_next 5 6 rfl hl_5
  clear hl_5
  obtain ⟨H6, hl_7⟩ := ops_next 6 7 rfl hl_6
  clear hl_6
  obtain ⟨H7, hl_8⟩ := ops_next 7 8 rfl hl_7
  clear hl_7
  obtain ⟨H8, hl_9⟩ := ops_next 8 9 rfl hl_8
  clear hl_8
  obtain ⟨H9, hl_10⟩ := ops_next 9 10 rfl hl_9
  clear hl_9
  obtain ⟨H10, hl_11⟩ := ops_next 10 11 rfl hl_10
  clear hl_10
  obtain ⟨H11, hl_12⟩ := ops_next 11 12 rfl hl_11
  clear hl_11
  clear hl_12
  have x_0 : ext fr 0 = _ := congrArg (fun a => Act.eval a (.tmp 0)) HFR.out
  conv at x_0 => rhs; simp only [Act.eval, Array.getD_eq_getD_getElem?, List.getElem?_toArray, List.getElem?_cons_succ, List.getElem?_cons_zero, Option.getD_some]
  refine env_yes HSZ H0.out ?_ (fun w' hS => ?_) ?_
  rotate_left
  (go_simp
   rfl)
  refine env_yes HSZ H1.out ?_ (fun w' hS => ?_) ?_
  rotate_left
  (go_simp
   rfl)
  refine env_yes HSZ H2.out ?_ (fun w' hS => ?_) ?_
  rotate_left
  (go_simp
   rfl)
  refine env_yes HSZ H3.out ?_ (fun w' hS => ?_) ?_
  rotate_left
  (have h := (hS.cell (p := ⟨g, 1, none⟩) lg).trans y1
   go_simp
   rfl)
  refine env_yes HSZ H4.out ?_ (fun w' hS => ?_) ?_
  rotate_left
  (go_simp
   rfl)
  refine env_yes HSZ H5.out ?_ (fun w' hS => ?_) ?_
  rotate_left
  (go_simp
   rfl)
  refine env_yes HSZ H6.out ?_ (fun w' hS => ?_) ?_
  rotate_left
  (go_simp
   rfl)
  refine env_yes HSZ H7.out ?_ (fun w' hS => ?_) ?_
  rotate_left
  (have h := (hS.cell (p := ⟨g, 0, none⟩) lg).trans y0
   go_simp
   rfl)
  refine env_yes HSZ H8.out ?_ (fun w' hS => ?_) ?_
  rotate_left
  (go_simp
   rfl)
  refine env_yes HSZ H9.out ?_ (fun w' hS => ?_) ?_
  rotate_left
  (go_simp
   rfl)
  refine env_yes HSZ H10.out ?_ (fun w' hS => ?_) ?_
  rotate_left
  (go_simp
   rfl)
  refine env_yes HSZ H11.out ?_ (fun w' hS => ?_) ?_
  rotate_left
  (go_simp
   rfl)
  refine env_end ?_
  have hfr := HFR.out
  clear HFR HSZ H0 H1 H2 H3 H4 H5 H6 H7 H8 H9 H10 H11 x_0
  subst hfr
  simp only [putAll, Act.put, List.setIfInBounds_toArray, List.set_cons_succ, List.set_cons_zero]
  clear e1 e2
  have K2 : Aside (Blk w1.drew g 56 [.slice A n c, .int .i64 ((k : Int) + 1), .int .i64 seed]) := ⟨K.out⟩
  have BT2 : Aside (But (AtG g) w w1.drew) := ⟨⟨BT.out.os, BT.out.tape, BT.out.output, BT.out.size, BT.out.block⟩⟩
  clear y0 y1 y2 lg
  generalize w1.drew = w2 at K2 BT2 ⊢
  clear K BT HW1
  have y0 := K2.out.cell 0
  have y1 := K2.out.cell 1
  have y2 := K2.out.cell 2
  simp only [List.getElem?_cons_zero, List.getElem?_cons_succ] at y0 y1 y2
  have lg : g < w2.heap.size := K2.out.lt
  go_wp2_with fail
  by_cases c2 : (n : Int) < (k : Int) + 1
  · skip
    refine region_env [(0, true), (1, true), (2, true), (3, true), (4, true), (5, true), (6, true), (7, true), (8, true), (9, true)] (fun w' => Below w2.heap.size w2 w') 83 rfl (by kernel_rfl) (by kernel_rfl) (fun _ _ d _ _ h => by cases d <;> exact h) ((Below.refl _ _).drew) (fun ops fr HFR HSZ hl => ?_)
    have hl_0 := ops_start hl
    clear hl
    obtain ⟨H0, hl_1⟩ := ops_next 0 1 rfl hl_0
    clear hl_0
    obtain ⟨H1, hl_2⟩ := ops_next 1 2 rfl hl_1
    clear hl_1
    obtain ⟨H2, hl_3⟩ := ops_next 2 3 rfl hl_2
    clear hl_2
    obtain ⟨H3, hl_4⟩ := ops_next 3 4 rfl hl_3
    clear hl_3
    obtain ⟨H4, hl_5⟩ := ops_next 4 5 rfl hl_4
    clear hl_4
    obtain ⟨H5, hl_6⟩ := ops_next 5 6 rfl hl_5
    clear hl_5
    obtain ⟨H6, hl_7⟩ := ops_next 6 7 rfl hl_6
    clear hl_6
    obtain ⟨H7, hl_8⟩ := ops_next 7 8 rfl hl_7
    clear hl_7
    obtain ⟨H8, hl_9⟩ := ops_next 8 9 rfl hl_8
    clear hl_8
    obtain ⟨H9, hl_10⟩ := ops_next 9 10 rfl hl_9
    clear hl_9
    clear hl_10
    have x_0 : ext fr 0 = _ := congrArg (fun a => Act.eval a (.tmp 0)) HFR.out
    conv at x_0 => rhs; simp only [Act.eval, Array.getD_eq_getD_getElem?, List.getElem?_toArray, List.getElem?_cons_succ, List.getElem?_cons_zero, Option.getD_some]
    refine env_yes HSZ H0.out ?_ (fun w' hS => ?_) ?_
    rotate_left
    (go_simp
     rfl)
    refine env_yes HSZ H1.out ?_ (fun w' hS => ?_) ?_
    rotate_left
    (go_simp
     rfl)
    refine env_yes HSZ H2.out ?_ (fun w' hS => ?_) ?_
    rotate_left
    (go_simp
     rfl)
    refine env_yes HSZ H3.out ?_ (fun w' hS => ?_) ?_
    rotate_left
    (have h := (hS.cell (p := ⟨g, 1, none⟩) lg).trans y1
     go_simp
     rfl)
    refine env_yes HSZ H4.out ?_ (fun w' hS => ?_) ?_
    rotate_left
    (go_simp
     rfl)
    refine env_yes HSZ H5.out ?_ (fun w' hS => ?_) ?_
    rotate_left
    (go_simp
     rfl)
    refine env_yes HSZ H6.out ?_ (fun w' hS => ?_) ?_
    rotate_left
    (go_simp
     rfl)
    refine env_yes HSZ H7.out ?_ (fun w' hS => ?_) ?_
    rotate_left
    (have h := (hS.cell (p := ⟨g, 0, none⟩) lg).trans y0
     go_simp
     rfl)
    refine env_yes HSZ H8.out ?_ (fun w' hS => ?_) ?_
    rotate_left
    (go_simp
     rfl)
    refine env_yes HSZ H9.out ?_ (fun w' hS => ?_) ?_
    rotate_left
    (go_simp
     rfl)
    refine env_end ?_
    have hfr := HFR.out
    clear HFR HSZ H0 H1 H2 H3 H4 H5 H6 H7 H8 H9 x_0
    subst hfr
    simp only [putAll, Act.put, List.setIfInBounds_toArray, List.set_cons_succ, List.set_cons_zero]
    have f2 := K2.out.free 2
    have KD : Aside (Blk w2.drew g 56 [.slice A n c, .int .i64 ((k : Int) + 1), .int .i64 seed]) := ⟨K2.out⟩
    go_wp2_with fail
    go_ret
    refine ⟨_, rfl, by omega, by omega, but_drew (BT2.out.set (p := ⟨g, 2, none⟩) (show AtG g g from rfl) _), (k : Int) + 1, _, (K2.out.set 2 _), by omega, by omega, by omega, by omega, HC.out.but (but_drew (BT2.out.set (p := ⟨g, 2, none⟩) (show AtG g g from rfl) _))⟩
  have d2 : decide ((n : Int) < (k : Int) + 1) = false := decide_eq_false c2
  refine region_env [(0, true), (1, true), (2, true), (3, true), (4, true), (5, true), (6, true), (7, true), (8, true), (9, true)] (fun w' => Below w2.heap.size w2 w') 83 rfl (by kernel_rfl) (by kernel_rfl) (fun _ _ d _ _ h => by cases d <;> exact h) ((Below.refl _ _).drew) (fun ops fr HFR HSZ hl => ?_)
  have hl_0 := ops_start hl
  clear hl
  obtain ⟨H0, hl_1⟩ := ops_next 0 1 rfl hl_0
  clear hl_0
  obtain ⟨H1, hl_2⟩ := ops_next 1 2 rfl hl_1
  clear hl_1
  obtain ⟨H2, hl_3⟩ := ops_next 2 3 rfl hl_2
  clear hl_2
  obtain ⟨H3, hl_4⟩ := ops_next 3 4 rfl hl_3
  clear hl_3
  obtain ⟨H4, hl_5⟩ := ops_next 4 5 rfl hl_4
  clear hl_4
  obtain ⟨H5, hl_6⟩ := ops_next 5 6 rfl hl_5
  clear hl_5
  obtain ⟨H6, hl_7⟩ := ops_next 6 7 rfl hl_6
  clear hl_6
  obtain ⟨H7, hl_8⟩ := ops_next 7 8 rfl hl_7
  clear hl_7
  obtain ⟨H8, hl_9⟩ := ops_next 8 9 rfl hl_8
  clear hl_8
  obtain ⟨H9, hl_10⟩ := ops_next 9 10 rfl hl_9
  clear hl_9
  clear hl_10
  have x_0 : ext fr 0 = _ := congrArg (fun a => Act.eval a (.tmp 0)) HFR.out
  conv at x_0 => rhs; simp only [Act.eval, Array.getD_eq_getD_getElem?, List.getElem?_toArray, List.getElem?_cons_succ, List.getElem?_cons_zero, Option.getD_some]
  refine env_yes HSZ H0.out ?_ (fun w' hS => ?_) ?_
  rotate_left
  (go_simp
   rfl)
  refine env_yes HSZ H1.out ?_ (fun w' hS => ?_) ?_
  rotate_left
  (go_simp
   rfl)
  refine env_yes HSZ H2.out ?_ (fun w' hS => ?_) ?_
  rotate_left
  (go_simp
   rfl)
  refine env_yes HSZ H3.out ?_ (fun w' hS => ?_) ?_
  rotate_left
  (have h := (hS.cell (p := ⟨g, 1, none⟩) lg).trans y1
   go_simp
   rfl)
  refine env_yes HSZ H4.out ?_ (fun w' hS => ?_) ?_
  rotate_left
  (go_simp
   rfl)
  refine env_yes HSZ H5.out ?_ (fun w' hS => ?_) ?_
  rotate_left
  (go_simp
   rfl)
  refine env_yes HSZ H6.out ?_ (fun w' hS => ?_) ?_
  rotate_left
  (go_simp
   rfl)
  refine env_yes HSZ H7.out ?_ (fun w' hS => ?_) ?_
  rotate_left
  (have h := (hS.cell (p := ⟨g, 0, none⟩) lg).trans y0
   go_simp
   rfl)
  refine env_yes HSZ H8.out ?_ (fun w' hS => ?_) ?_
  rotate_left
  (go_simp
   rfl)
  refine env_yes HSZ H9.out ?_ (fun w' hS => ?_) ?_
  rotate_left
  (go_simp
   rfl)
  refine env_end ?_
  have hfr := HFR.out
  clear HFR HSZ H0 H1 H2 H3 H4 H5 H6 H7 H8 H9 x_0
  subst hfr
  simp only [putAll, Act.put, List.setIfInBounds_toArray, List.set_cons_succ, List.set_cons_zero]
  have K3 : Aside (Blk w2.drew g 56 [.slice A n c, .int .i64 ((k : Int) + 1), .int .i64 seed]) := ⟨K2.out⟩
  have BT3 := Aside.mk (but_drew BT2.out)
  clear y0 y1 y2 lg d1 d2
  generalize w2.drew = w3 at K3 BT3 ⊢
  clear K2 BT2
  have hkn : k < n := by omega
  obtain ⟨b, o, x, hA, hne, hbl, hx, x0, x1⟩ := HC.out k hkn
  subst hA
  have y0 := K3.out.cell 0
  have y1 := K3.out.cell 1
  have y2 := K3.out.cell 2
  simp only [List.getElem?_cons_zero, List.getElem?_cons_succ] at y0 y1 y2
  have f2 := K3.out.free 2
  have lg : g < w3.heap.size := K3.out.lt
  have hx3 : w3.cell? ⟨b, o + k, none⟩ = some (.int .u8 x) := (World.cell?_of_block (w := w) (BT3.out.block b hbl hne)).trans hx
  have hbl3 : b < w3.heap.size := cell_lt hx3
  have ukn : (k : Int) < n := by omega
  have s1 : 0 ≤ seed * 31 + x + 7 := by omega
  have e3 : (seed * 31 + x + 7).tmod 2147483648 = (seed * 31 + x + 7) % 2147483648 := Int.tmod_eq_emod_of_nonneg s1
  have e4 : IntKind.i64.wrap (k : Int) = k := by rw [IntKind.wrap_i64]; omega
  have e5 : IntKind.i64.wrap (seed * 31) = seed * 31 := by rw [IntKind.wrap_i64]; omega
  have e6 : IntKind.i64.wrap (seed * 31 + x) = seed * 31 + x := by rw [IntKind.wrap_i64]; omega
  have e7 : IntKind.i64.wrap (seed * 31 + x + 7) = seed * 31 + x + 7 := by rw [IntKind.wrap_i64]; omega
  have e8 : IntKind.i64.wrap x = x := by rw [IntKind.wrap_i64]; omega
  obtain ⟨w4, hw4⟩ : ∃ w4, w4 = (w3.setCell ⟨g, 2, none⟩ (.int .i64 ((seed * 31 + x + 7) % 2147483648))).drew := ⟨_, rfl⟩
  have K4 : Aside (Blk w4 g 56 [.slice (some ⟨b, o, none⟩) n c, .int .i64 ((k : Int) + 1), .int .i64 ((seed * 31 + x + 7) % 2147483648)]) := ⟨by rw [hw4]; exact K3.out.set 2 _⟩
  have BT4 : Aside (But (AtG g) w w4) := ⟨by rw [hw4]; exact but_drew (BT3.out.set (p := ⟨g, 2, none⟩) (show AtG g g from rfl) _)⟩
  have hx4 : w4.cell? ⟨b, o + k, none⟩ = some (.int .u8 x) := (World.cell?_of_block (w := w) (BT4.out.block b hbl hne)).trans hx
  have HX4 := Aside.mk hx4
  have HW4 := Aside.mk hw4
  clear hx hbl hx4 hw4
  go_wp2_with fail
  go_still_tail 23, (by kernel_rfl)
  change wpList _ _ _ _ _ w3.drew
  go_wp2_with fail
  rw [← HW4.out]
  clear y0 y1 y2 f2 lg hx3 hbl3 e3 e5 e6 e7 K3 BT3 HW4
  have hx4 := HX4.out
  have y0 := K4.out.cell 0
  have y1 := K4.out.cell 1
  simp only [List.getElem?_cons_zero, List.getElem?_cons_succ] at y0 y1
  have lg : g < w4.heap.size := K4.out.lt
  have lb : b < w4.heap.size := cell_lt hx4
  refine region_env [(0, true), (1, true), (2, true), (3, true), (4, true), (5, true), (6, true), (7, true), (8, true), (9, true), (10, true), (11, true), (12, true)] (fun w' => Below w4.heap.size w4 w') 83 rfl (by kernel_rfl) (by kernel_rfl) (fun _ _ d _ _ h => by cases d <;> exact h) ((Below.refl _ _).drew) (fun ops fr HFR HSZ hl => ?_)
  have hl_0 := ops_start hl
  clear hl
  obtain ⟨H0, hl_1⟩ := ops_next 0 1 rfl hl_0
  clear hl_0
  obtain ⟨H1, hl_2⟩ := ops_next 1 2 rfl hl_1
  clear hl_1
  obtain ⟨H2, hl_3⟩ := ops_next 2 3 rfl hl_2
  clear hl_2
  obtain ⟨H3, hl_4⟩ := ops_next 3 4 rfl hl_3
  clear hl_3
  obtain ⟨H4, hl_5⟩ := ops_next 4 5 rfl hl_4
  clear hl_4
  obtain ⟨H5, hl_6⟩ := ops_next 5 6 rfl hl_5
  clear hl_5
  obtain ⟨H6, hl_7⟩ := ops_next 6 7 rfl hl_6
  clear hl_6
  obtain ⟨H7, hl_8⟩ := ops_next 7 8 rfl hl_7
  clear hl_7
  obtain ⟨H8, hl_9⟩ := ops_next 8 9 rfl hl_8
  clear hl_8
  obtain ⟨H9, hl_10⟩ := ops_next 9 10 rfl hl_9
  clear hl_9
  obtain ⟨H10, hl_11⟩ := ops_next 10 11 rfl hl_10
  clear hl_10
  obtain ⟨H11, hl_12⟩ := ops_next 11 12 rfl hl_11
  clear hl_11
  obtain ⟨H12, hl_13⟩ := ops_next 12 13 rfl hl_12
  clear hl_12
  clear hl_13
  have x_0 : ext fr 0 = _ := congrArg (fun a => Act.eval a (.tmp 0)) HFR.out
  conv at x_0 => rhs; simp only [Act.eval, Array.getD_eq_getD_getElem?, List.getElem?_toArray, List.getElem?_cons_succ, List.getElem?_cons_zero, Option.getD_some]
  refine env_yes HSZ H0.out ?_ (fun w' hS => ?_) ?_
  rotate_left
  (go_simp
   rfl)
  refine env_yes HSZ H1.out ?_ (fun w' hS => ?_) ?_
  rotate_left
  (go_simp
   rfl)
  refine env_yes HSZ H2.out ?_ (fun w' hS => ?_) ?_
  rotate_left
  (go_simp
   rfl)
  refine env_yes HSZ H3.out ?_ (fun w' hS => ?_) ?_
  rotate_left
  (have h := (hS.cell (p := ⟨g, 0, none⟩) lg).trans y0
   go_simp
   rfl)
  refine env_yes HSZ H4.out ?_ (fun w' hS => ?_) ?_
  rotate_left
  (go_simp
   rfl)
  refine env_yes HSZ H5.out ?_ (fun w' hS => ?_) ?_
  rotate_left
  (go_simp
   rfl)
  refine env_yes HSZ H6.out ?_ (fun w' hS => ?_) ?_
  rotate_left
  (go_simp
   rfl)
  refine env_yes HSZ H7.out ?_ (fun w' hS => ?_) ?_
  rotate_left
  (have h := (hS.cell (p := ⟨g, 1, none⟩) lg).trans y1
   go_simp
   rfl)
  refine env_yes HSZ H8.out ?_ (fun w' hS => ?_) ?_
  rotate_left
  (go_simp
   rfl)
  refine env_yes HSZ H9.out ?_ (fun w' hS => ?_) ?_
  rotate_left
  (go_simp
   rfl)
  refine env_yes HSZ H10.out ?_ (fun w' hS => ?_) ?_
  rotate_left
  (have h := (hS.cell (p := ⟨b, o + k, none⟩) lb).trans hx4
   go_simp
   rfl)
  refine env_yes HSZ H11.out ?_ (fun w' hS => ?_) ?_
  rotate_left
  (go_simp
   rfl)
  refine env_yes HSZ H12.out ?_ (fun w' hS => ?_) ?_
  rotate_left
  (go_simp
   rfl)
  refine env_end ?_
  have hfr := HFR.out
  clear HFR HSZ H0 H1 H2 H3 H4 H5 H6 H7 H8 H9 H10 H11 H12 x_0
  subst hfr
  simp only [putAll, Act.put, List.setIfInBounds_toArray, List.set_cons_succ, List.set_cons_zero]
  clear e4 e8
  go_wp2_with fail
  go_ret
  refine ⟨_, rfl, by omega, by omega, but_drew BT4.out, (k : Int) + 1, _, K4.out.drew, by omega, by omega, by omega, by omega, HC.out.but (but_drew BT4.out)⟩
end Go.Proofs.YtlopbheahedofaaDoor.Fn
end
section
set_option linter.unusedVariables false
namespace Go.Proofs.YtlopbheahedofaaDoor.Fn
open Go.RowKit Go.Proofs.YtlopbheahedofaaDoor.Lib Go.Proofs.YtlopbheahedofaaDoor.Plan

theorem mod_small {r m q : Int} (h0 : 0 ≤ r) (hm : 1 < m) (hq : m - 1 ≤ q) : 0 ≤ r.tmod m ∧ r.tmod m ≤ q := by
  rw [Int.tmod_eq_emod_of_nonneg h0]
  have h1 := Int.emod_nonneg r (show m ≠ 0 by omega)
  have h2 := Int.emod_lt_of_pos r (show 0 < m by omega)
  omega
set_option maxRecDepth 100000 in
set_option maxHeartbeats 2000000 in
theorem curPick (g : Nat) (A : Option Addr) (n c : Nat) (top m q : Int) (w : World) (h : CurOK w g A n c top) (hn : n ≤ 1048576) (ht : top ≤ 1000000000000) (hm : m ≤ 60000) (hq0 : 0 ≤ q) (hq : m - 1 ≤ q) :
    Calls Tryd.prog 21 #[.pointer (some ⟨g, 0, none⟩), .int .i64 m] w (Drawn g A n c (top + 2) w q) := by
  have HC := Aside.mk h
  clear h
  by_cases c1 : m ≤ 1
  · go_enter Tryd.func21, Tryd.ntmps21
    go_wp2_with fail
    go_ret
    exact ⟨0, rfl, Int.le_refl _, hq0, But.refl _ _, HC.out.mono (by omega)⟩
  have c1' : 1 < m := by omega
  have hne : ¬ m = 0 := by omega
  by_cases c2 : m ≤ 256
  · go_enter Tryd.func21, Tryd.ntmps21
    go_wp2_with fail
    refine (curByte g A n c top w HC.out hn (by omega)).mono ?_
    rintro e w1 ⟨r, rfl, h0, h1, hb, hc⟩
    have HB := Aside.mk hb
    have HC1 := Aside.mk hc
    have hms := mod_small h0 c1' hq
    have HMS := Aside.mk hms
    clear hb hc hms
    go_wp2_with fail
    go_ret
    have hms := HMS.out
    rw [Int.tmod_eq_emod_of_nonneg h0] at hms
    exact ⟨_, rfl, by first | exact hms.1 | (rw [Int.tmod_eq_emod_of_nonneg h0]; exact hms.1), by first | exact hms.2 | (rw [Int.tmod_eq_emod_of_nonneg h0]; exact hms.2), HB.out, HC1.out.mono (by omega)⟩
  · go_enter Tryd.func21, Tryd.ntmps21
    go_wp2_with fail
    refine (curByte g A n c top w HC.out hn (by omega)).mono ?_
    rintro e w1 ⟨r, rfl, h0, h1, hb, hc⟩
    have HB := Aside.mk hb
    have HC1 := Aside.mk hc
    clear hb hc
    go_wp2_with fail
    refine (curByte g A n c (top + 1) w1 HC1.out hn (by omega)).mono ?_
    rintro e w2 ⟨r2, rfl, h2, h3, hb, hc⟩
    have HB2 := Aside.mk (HB.out.trans hb)
    have HC2 := Aside.mk hc
    have hs : 0 ≤ r * 256 + r2 := by omega
    have hms := mod_small hs c1' hq
    have HMS := Aside.mk hms
    clear hb hc hms HB HC1
    go_wp2_with fail
    go_ret
    have hms := HMS.out
    rw [Int.tmod_eq_emod_of_nonneg hs] at hms
    exact ⟨_, rfl, by first | exact hms.1 | (rw [Int.tmod_eq_emod_of_nonneg hs]; exact hms.1), by first | exact hms.2 | (rw [Int.tmod_eq_emod_of_nonneg hs]; exact hms.2), HB2.out, HC2.out.mono (by omega)⟩
/-- What lies before a call of the cursor, beside it, may grow first. -/
theorem CurOK.below {w w' : World} {g : Nat} {A : Option Addr} {n c : Nat} {t : Int} (h : CurOK w g A n c t) (hb : Below w.heap.size w w') : CurOK w' g A n c t := by
  obtain ⟨k, s, h1, h2, h3, h4, h5, h6⟩ := h
  refine ⟨k, s, h1.below hb, h2, h3, h4, h5, ?_⟩
  intro j hj
  obtain ⟨b, o, x, e, hne, hlt, hc, x1, x2⟩ := h6 j hj
  exact ⟨b, o, x, e, hne, Nat.lt_of_lt_of_le hlt hb.size, (hb.cell (p := ⟨b, o + j, none⟩) hlt).trans hc, x1, x2⟩
theorem lit_cell {w w1 : World} {g h k : Nat} {T : TypeId} {l : List Value} (hb : But (AtG g) w w1) (hh : h < w.heap.size) (hg : h ≠ g) (hl : Blk w h T l) (hk : k < l.length) :
    w1.cell? ⟨h, k, none⟩ = some l[k] :=
  (Blk.cell (T := T) (cs := l) ((hb.block h hh hg).trans hl) k).trans (List.getElem?_eq_getElem hk)
end Go.Proofs.YtlopbheahedofaaDoor.Fn
end
