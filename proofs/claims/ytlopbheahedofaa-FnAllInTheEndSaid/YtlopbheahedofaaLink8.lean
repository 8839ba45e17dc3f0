/- A packet taken out of a row of packets, in place: slices.Delete of one. Conditions: those of each theorem. -/
import Derived.Test.YtlopbheahedofaaLink5
set_option linter.unusedVariables false
namespace Go.Proofs.Ytlopbheahedofaa.Fn
open Go Go.RowKit Go.Proofs.Ytlopbheahedofaa.Lib Go.Proofs.Ytlopbheahedofaa.Plan
attribute [local go_sem] look_tmp look_const look_func look_global lookT_nil lookT_hit lookT_miss

theorem cpk_len (l : List (Bool × ByteArray)) : (cpk l).length = l.length * 2 := by
  unfold cpk
  induction l with
  | nil => rfl
  | cons p l ih => simp only [List.map_cons, List.flatten_cons, List.length_append, List.length_cons, List.length_nil, ih]; omega
theorem cpk_app (a b : List (Bool × ByteArray)) : cpk (a ++ b) = cpk a ++ cpk b := by simp [cpk]
theorem cpk_take (l : List (Bool × ByteArray)) (i : Nat) (h : i ≤ l.length) : (cpk l).take (i * 2) = cpk (l.take i) := by
  have e : cpk l = cpk (l.take i) ++ cpk (l.drop i) := by rw [← cpk_app, List.take_append_drop]
  rw [e, List.take_left' (by rw [cpk_len, List.length_take, Nat.min_eq_left h])]
theorem cpk_drop (l : List (Bool × ByteArray)) (i : Nat) (h : i ≤ l.length) : (cpk l).drop (i * 2) = cpk (l.drop i) := by
  have e : cpk l = cpk (l.take i) ++ cpk (l.drop i) := by rw [← cpk_app, List.take_append_drop]
  rw [e, List.drop_left' (by rw [cpk_len, List.length_take, Nat.min_eq_left h])]
theorem cpk_one (l : List (Bool × ByteArray)) : ∀ u ∈ cpk l, u.oneCell' = true := by
  intro u hu
  obtain ⟨c, hc, hu⟩ := List.mem_flatten.1 hu
  obtain ⟨p, -, rfl⟩ := List.mem_map.1 hc
  simp at hu
  rcases hu with rfl | rfl <;> rfl
theorem own_cut {w : World} {base e k n cap g : Nat} {xs : List Value} (h : w.ownsRow base e k (.slice (some ⟨g, 0, none⟩) n cap) n xs) {i : Nat} (hi : i ≤ n) :
    w.ownsRow base e k (.slice (some ⟨g, 0, none⟩) i cap) i (xs.take (i * k)) := by
  obtain ⟨hl, hr⟩ := h
  have hm : i * k ≤ n * k := Nat.mul_le_mul_right _ hi
  rcases hr with ⟨he, -⟩ | ⟨g', c, cur, he, h1, h2, h3, h4, h5, h6⟩
  · simp at he
  · simp only [Value.slice.injEq, Option.some.injEq, Addr.mk.injEq, and_true, true_and] at he
    obtain ⟨rfl, rfl⟩ := he
    exact ⟨by rw [List.length_take, hl, Nat.min_eq_left hm], Or.inr ⟨g, cap, cur, rfl, h1, h2, by omega, h4, h5, by rw [← h6, List.take_take, Nat.min_eq_left hm]⟩⟩
theorem own_cap {w : World} {base e k n cap : Nat} {A : Option Addr} {xs : List Value} (h : w.ownsRow base e k (.slice A n cap) n xs) : n ≤ cap := by
  obtain ⟨A', cap', he, hc, -⟩ := own_shape h
  injection he with e1 e2 e3
  subst e3
  exact hc
theorem own_room {w : World} {base e k n cap g : Nat} {xs : List Value} (h : w.ownsRow base e k (.slice (some ⟨g, 0, none⟩) n cap) n xs) {t : Nat} (ht : t < cap * k) : (w.cell? ⟨g, t, none⟩).isSome = true := by
  rcases h.2 with ⟨he, -⟩ | ⟨g', c, cur, he, h1, h2, h3, h4, h5, h6⟩
  · simp at he
  · simp only [Value.slice.injEq, Option.some.injEq, Addr.mk.injEq, and_true, true_and] at he
    obtain ⟨rfl, rfl⟩ := he
    rw [cell_of_row w g t cur e (0, 0) h2, Array.getElem?_eq_getElem (by omega)]
    rfl
theorem zeroPkt (w : World) : (zeroValue 63).run Try.prog w = .ok (.agg #[.bool false, .string ⟨#[]⟩]) w := by kernel_rfl
set_option maxRecDepth 100000 in
set_option maxHeartbeats 8000000 in
theorem delPkt (base n cap i j : Nat) (A : Option Addr) (l : List (Bool × ByteArray)) (w : World) (own : w.ownsRow base 63 2 (.slice A n cap) n (cpk l)) (hl : l.length = n) (hi : i < n) (hj : j = i + 1) (hn : n ≤ 1000) :
    Calls Try.prog 45 #[.slice A n cap, .int .i64 i, .int .i64 j] w fun e w' => e = .returned (.slice A (n - 1) cap) ∧ w'.ownsRow base 63 2 (.slice A (n - 1) cap) (n - 1) (cpk (l.eraseIdx i)) ∧
      w.grownBy w' (Value.slice A n cap).ownBlock := by
  obtain ⟨g, rfl, hbg, hgl, hcell, hfz⟩ := own_addr own (by omega)
  have hcap := own_cap own
  obtain ⟨j0, hj0, jz0, jz1, jz2⟩ := info_parts infoPkt
  have OC := own_cut own (i := i) (by omega)
  rw [cpk_take l i (by omega)] at OC
  obtain ⟨a, ha, hnews⟩ : ∃ a : Addr, (if cap = j then some (⟨g, 0, none⟩ : Addr) else some ⟨g, j * 2, none⟩) = some a ∧ ∀ t u, (cpk (l.drop j))[t]? = some u → w.drew.cell? (a.add t) = some u := by
    by_cases h : cap = j
    · refine ⟨⟨g, 0, none⟩, by rw [if_pos h], fun t u hu => ?_⟩
      rw [List.drop_of_length_le (by omega)] at hu
      cases hu
    · refine ⟨⟨g, j * 2, none⟩, by rw [if_neg h], fun t u hu => ?_⟩
      rw [← cpk_drop l j (by omega), List.getElem?_drop] at hu
      rw [Addr.add_lit]
      exact hcell _ _ hu
  obtain ⟨w8, hrun, hown, hgr⟩ := run_append_fits (P := Try.prog) (w := w.drew) base 28 28 63 j0 2 Try.underlying28 hj0 jz1 g i cap _ OC.drew a (n - j) (cap - j) (cpk (l.drop j)) (by rw [cpk_len, List.length_drop]; omega) hnews (cpk_one _) (by omega)
  rw [← cpk_app] at hown
  rw [show i + (n - j) = n - 1 by omega] at hown hrun
  have hE : l.take i ++ l.drop j = l.eraseIdx i := by rw [hj, List.eraseIdx_eq_take_drop_succ]
  rw [hE] at hown
  have hcl : ∀ ty, (Builtin.clear_ #[28] ty #[.slice (some ⟨g, (n - 1) * 2, none⟩) (n - (n - 1)) (cap - (n - 1))]).run Try.prog w8 = .ok (.tuple #[]) (w8.setCells g ((n - 1) * 2) [.bool false, .string ⟨#[]⟩]) := by
    intro ty
    rw [show n - (n - 1) = 1 by omega]
    have h0 : ((n - 1) * 2 + 1) < cap * 2 := by omega
    have hst := run_storeCells_cells (P := Try.prog) g ((n - 1) * 2) [.bool false, .string ⟨#[]⟩] 0 w8 (fun t ht => own_room hown (by simp at ht; omega)) (fun t _ => hown.frozenAt _) (by intro u hu; simp at hu; rcases hu with rfl | rfl <;> rfl)
    simp only [Nat.add_zero] at hst
    have hz : (Builtin.zeroCells (Value.agg #[.bool false, .string ⟨#[]⟩]).cells 1).toList = [.bool false, .string ⟨#[]⟩] := by kernel_rfl
    simp [Builtin.clear_, run_underlying Try.underlying28, hz, hst]
  have hw9 : ∃ w9, w9 = w8.setCells g ((n - 1) * 2) [.bool false, .string ⟨#[]⟩] ∧ w9.ownsRow base 63 2 (.slice (some ⟨g, 0, none⟩) (n - 1) cap) (n - 1) (cpk (l.eraseIdx i)) ∧ w.grownBy w9 (some g) := by
    have hlen : (cpk (l.eraseIdx i)).length = (n - 1) * 2 := hown.1
    have s1 := hown.stored ((n - 1) * 2) (.bool false)
    rw [List.set_eq_of_length_le (by omega)] at s1
    have s2 := s1.1.stored ((n - 1) * 2 + 1) (.string ⟨#[]⟩)
    rw [List.set_eq_of_length_le (by omega)] at s2
    have hg0 : w.grownBy w8 (some g) := ⟨hgr.os, hgr.tape, hgr.output, hgr.size, hgr.block⟩
    exact ⟨_, rfl, s2.1, (hg0.trans s1.2).trans s2.2⟩
  obtain ⟨w9, hw9, hown9, hgr9⟩ := hw9
  rw [← hw9] at hcl
  have HO9 := Aside.mk hown9
  have HG9 := Aside.mk hgr9
  have HRUN := Aside.mk hrun
  have HA := Aside.mk ha
  have hij : (i : Int) ≤ j := by omega
  have hij2 : i ≤ j := by omega
  have hnij : ¬ i = j := by omega
  have hjn : (j : Int) ≤ n := by omega
  have hjn2 : j ≤ n := by omega
  have hjc : j ≤ cap := by omega
  have hic : i ≤ cap := by omega
  have hn1c : ¬ cap = n - 1 := by omega
  have HS1 : Aside (But (fun c => c = g) w w8) := ⟨⟨hgr.os, hgr.tape, hgr.output, hgr.size, fun k hk hn => hgr.block k hk (fun e => hn (by injection e))⟩⟩
  clear hj own hw9 hown9 hgr9 hrun ha hown hgr hcell hfz hnews OC hE hj0 jz0 jz1 jz2
  go_enter Try.func45, Try.ntmps45
  go_wp2_with fail
  refine region_env2 [(0, true), (1, true), (2, true), (3, true), (4, true), (5, true), (6, false), (7, true)] (fun w' => Below w.heap.size w w') (fun w' => But (fun c => c = g) w w') 6 33 rfl (by kernel_rfl) (by kernel_rfl) (fun _ _ d _ _ h => by cases d <;> exact h) (fun w' h => But.below h) ((Below.refl _ _).drew) (fun ops fr HFR HSZ HWT hl => ?_)
  have hl_0 := ops_start hl
  clear hl
  obtain ⟨H0, hl_1⟩ := ops_next 0 1 rfl hl_0
  clear hl_0
  obtain ⟨H1, hl_2⟩ := ops_next 1 2 rfl hl_1
  clear hl_1
  obtain ⟨H2, hl_3⟩ := ops_next 2 3 rfl hl_2
  clear hl_2
  obtain ⟨H3, hl_4⟩ := ops_next 3 4 rfl hl_3
  clear hl_3
  obtain ⟨H4, hl_5⟩ := ops_next 4 5 rfl hl_4
  clear hl_4
  obtain ⟨H5, hl_6⟩ := ops_next 5 6 rfl hl_5
  clear hl_5
  obtain ⟨H6, hl_7⟩ := ops_next 6 7 rfl hl_6
  clear hl_6
  obtain ⟨H7, hl_8⟩ := ops_next 7 8 rfl hl_7
  clear hl_7
  clear hl_8
  have x_0 : ext fr 0 = _ := congrArg (fun a => Act.eval a (.tmp 0)) HFR.out
  conv at x_0 => rhs; simp only [Act.eval, Array.getD_eq_getD_getElem?, List.getElem?_toArray, List.getElem?_cons_succ, List.getElem?_cons_zero, Option.getD_some]
  have x_1 : ext fr 1 = _ := congrArg (fun a => Act.eval a (.tmp 1)) HFR.out
  conv at x_1 => rhs; simp only [Act.eval, Array.getD_eq_getD_getElem?, List.getElem?_toArray, List.getElem?_cons_succ, List.getElem?_cons_zero, Option.getD_some]
  have x_2 : ext fr 2 = _ := congrArg (fun a => Act.eval a (.tmp 2)) HFR.out
  conv at x_2 => rhs; simp only [Act.eval, Array.getD_eq_getD_getElem?, List.getElem?_toArray, List.getElem?_cons_succ, List.getElem?_cons_zero, Option.getD_some]
  refine env2_yes HSZ (by decide) H0.out ?_ (fun w' hS => ?_) ?_
  rotate_left
  (go_simp
   rfl)
  refine env2_yes HSZ (by decide) H1.out ?_ (fun w' hS => ?_) ?_
  rotate_left
  (go_simp
   rfl)
  refine env2_early HSZ (by decide) HWT (by kernel_rfl) H2.out ?_ (fun w' hS => ?_) ?_
  rotate_left
  (go_simp
   rfl)
  refine env2_yes HSZ (by decide) H3.out ?_ (fun w' hS => ?_) ?_
  rotate_left
  (go_simp
   rfl)
  refine env2_yes HSZ (by decide) H4.out ?_ (fun w' hS => ?_) ?_
  rotate_left
  (go_simp
   rfl)
  refine env2_yes HSZ (by decide) H5.out ?_ (fun w' hS => ?_) ?_
  rotate_left
  (go_simp
   rfl)
  refine env2_run HSZ H6.out ?_ ?_ ?_ ?_ ?_
  rotate_left 2
  rotate_right 2
  exact (.slice (some ⟨g, 0, none⟩) (n - 1) cap)
  exact w8
  exact exec_app (v := .slice (some ⟨g, 0, none⟩) i cap) (v2 := .slice (some a) (n - j) (cap - j)) _ _ (by go_simp) (by rw [← HA.out]; go_simp) HRUN.out
  exact HS1.out
  refine env2_yes HSZ (by decide) H7.out ?_ (fun w' hS => ?_) ?_
  rotate_left
  (go_simp
   rfl)
  refine env2_end ?_
  have hfr := HFR.out
  clear HFR HSZ HWT H0 H1 H2 H3 H4 H5 H6 H7 x_0 x_1 x_2
  subst hfr
  simp only [putAll, Act.put, List.setIfInBounds_toArray, List.set_cons_succ, List.set_cons_zero]
  go_wp2
  all_goals
    go_ret
    first
      | exact ⟨rfl, HO9.out, HG9.out⟩
      | (have hc : cap = j := by assumption
         rw [← hc]
         exact ⟨rfl, HO9.out, HG9.out⟩)
theorem delPkt1 (base n cap i : Nat) (A : Option Addr) (l : List (Bool × ByteArray)) (w : World) (own : w.ownsRow base 63 2 (.slice A n cap) n (cpk l)) (hl : l.length = n) (hi : i < n) (hn : n ≤ 1000) :
    Calls Try.prog 45 #[.slice A n cap, .int .i64 i, .int .i64 ((i : Int) + 1)] w fun e w' => e = .returned (.slice A (n - 1) cap) ∧ w'.ownsRow base 63 2 (.slice A (n - 1) cap) (n - 1) (cpk (l.eraseIdx i)) ∧
      w.grownBy w' (Value.slice A n cap).ownBlock := delPkt base n cap i (i + 1) A l w own hl hi rfl hn
end Go.Proofs.Ytlopbheahedofaa.Fn
