/- string: how it lies in memory; copied, measured, compared. Conditions: those of each theorem. -/
import Derived.Test.YtlopbheahedofaaDoorGInt
import Derived.Test.YtlopbheahedofaaDoorEnv
set_option linter.unusedVariables false
namespace Go.Proofs.YtlopbheahedofaaDoor.Lib
open Go.RowKit Go.Proofs.YtlopbheahedofaaDoor.Plan
attribute [local go_sem] look_tmp look_const look_func look_global lookT_nil lookT_hit lookT_miss
theorem infoString : (Tryd.prog.info? 9).map (fun i => (i.zero, i.size, i.bytes)) = some (some (.string ⟨#[]⟩), 1, 16) := by kernel_rfl
set_option maxRecDepth 100000 in
set_option maxHeartbeats 1000000 in
theorem eqStringS (xs : List ByteArray) (va vb : Value) (w : World) (ha : Rec.str.sl.rd False w (Old w) xs [va]) (hb : Rec.str.sl.rd False w (Old w) xs [vb]) (ho : Rec.str.sl.ok xs) :
    Calls Tryd.prog 16 #[va, vb] w fun e w2 => e = .returned (.bool true) ∧ Below w.heap.size w w2 := by
  obtain ⟨a1, cap1, he, hcap1, ha1⟩ := ha
  injection he with he _
  subst he
  obtain ⟨a2, cap2, he, hcap2, ha2⟩ := hb
  injection he with he _
  subst he
  have hn : xs.length ≤ 9223372036854775807 := ho.1
  have HA := Aside.mk ha1
  have HB := Aside.mk ha2
  obtain ⟨n, hln⟩ : ∃ n, n = xs.length := ⟨_, rfl⟩
  rw [← hln] at hn hcap1 hcap2 ⊢
  have HL := Aside.mk hln
  clear ho ha1 ha2 hln
  go_enter Tryd.func16, Tryd.ntmps16
  go_wp2_with fail
  go_loopw [5] (fun i wr => ∃ k : Nat, k ≤ n ∧ i = .int .i64 k ∧ Aside (Below w.heap.size w wr)) (fun i _ => n - (intOf i).toNat)
  case atStart => exact ⟨0, Nat.zero_le _, rfl, ⟨Below.refl _ _⟩⟩
  case round =>
    obtain ⟨k, hk, rfl, hbel⟩ := hrel
    by_cases hlt : k < n
    · have hlt2 : k < xs.length := by rw [← HL.out]; exact hlt
      rcases HA.out with h0 | ⟨b1, o1, rfl, hb1, f1, hf1, -, hrow1⟩
      · exfalso; rw [h0] at hlt2; exact absurd hlt2 (Nat.not_lt_zero _)
      obtain ⟨cs1, hr1, hc1⟩ := hrow1 k hlt2
      obtain rfl := hr1
      have d1 : wr.cell? ⟨b1, o1 + k, none⟩ = some (.string xs[k]) := by
        have h1 := hc1 0 (by decide)
        rw [show o1 + k * Rec.str.k + 0 = o1 + k from by show o1 + k * 1 + 0 = o1 + k; omega] at h1
        exact (hbel.out.cell (p := ⟨b1, o1 + k, none⟩) hb1).trans h1
      rcases HB.out with h0 | ⟨b2, o2, rfl, hb2, f2, hf2, -, hrow2⟩
      · exfalso; rw [h0] at hlt2; exact absurd hlt2 (Nat.not_lt_zero _)
      obtain ⟨cs2, hr2, hc2⟩ := hrow2 k hlt2
      obtain rfl := hr2
      have d2 : wr.cell? ⟨b2, o2 + k, none⟩ = some (.string xs[k]) := by
        have h1 := hc2 0 (by decide)
        rw [show o2 + k * Rec.str.k + 0 = o2 + k from by show o2 + k * 1 + 0 = o2 + k; omega] at h1
        exact (hbel.out.cell (p := ⟨b2, o2 + k, none⟩) hb2).trans h1
      obtain ⟨x, hx⟩ : ∃ x, x = xs[k] := ⟨_, rfl⟩
      rw [← hx] at d1 d2
      have hb3 := Aside.mk hbel.out.drew
      have l1 : b1 < wr.heap.size := Nat.lt_of_lt_of_le hb1 hbel.out.size
      have l2 : b2 < wr.heap.size := Nat.lt_of_lt_of_le hb2 hbel.out.size
      have ut : (k : Int) < n := by omega
      clear hc1 hrow1 hf1 hc2 hrow2 hf2 hx hbel
      go_wp2_with fail
      refine region_env [(0, true), (1, true), (2, true), (3, true), (4, true), (5, true), (6, true), (7, true), (8, true)] (fun w' => Below wr.heap.size wr w') 26 rfl (by kernel_rfl) (by kernel_rfl) (fun _ _ d _ _ h => by cases d <;> exact h) ((Below.refl _ _).drew) (fun ops fr HFR HSZ hl => ?_)
      have hl_0 := ops_start hl
      clear hl
      obtain ⟨H0, hl_1⟩ := ops_next 0 1 rfl hl_0
      clear hl_0
      obtain ⟨H1, hl_2⟩ := ops_next 1 2 rfl hl_1
      clear hl_1
      obtain ⟨H2, hl_3⟩ := ops_next 2 3 rfl hl_2
      clear hl_2
      obtain ⟨H3, hl_4⟩ := ops_next 3 4 rfl hl_3
      clear hl_3
      obtain ⟨H4, hl_5⟩ := ops_next 4 5 rfl hl_4
      clear hl_4
      obtain ⟨H5, hl_6⟩ := ops_next 5 6 rfl hl_5
      clear hl_5
      obtain ⟨H6, hl_7⟩ := ops_next 6 7 rfl hl_6
      clear hl_6
      obtain ⟨H7, hl_8⟩ := ops_next 7 8 rfl hl_7
      clear hl_7
      obtain ⟨H8, hl_9⟩ := ops_next 8 9 rfl hl_8
      clear hl_8
      clear hl_9
      have x_0 : ext fr 0 = _ := congrArg (fun a => Act.eval a (.tmp 0)) HFR.out
      conv at x_0 => rhs; simp only [Act.eval, Array.getD_eq_getD_getElem?, List.getElem?_toArray, List.getElem?_cons_succ, List.getElem?_cons_zero, Option.getD_some]
      have x_5 : ext fr 5 = _ := congrArg (fun a => Act.eval a (.tmp 5)) HFR.out
      conv at x_5 => rhs; simp only [Act.eval, Array.getD_eq_getD_getElem?, List.getElem?_toArray, List.getElem?_cons_succ, List.getElem?_cons_zero, Option.getD_some]
      have x_1 : ext fr 1 = _ := congrArg (fun a => Act.eval a (.tmp 1)) HFR.out
      conv at x_1 => rhs; simp only [Act.eval, Array.getD_eq_getD_getElem?, List.getElem?_toArray, List.getElem?_cons_succ, List.getElem?_cons_zero, Option.getD_some]
      refine env_yes HSZ H0.out ?_ (fun w' hS => ?_) ?_
      rotate_left
      (go_simp
       rfl)
      refine env_yes HSZ H1.out ?_ (fun w' hS => ?_) ?_
      rotate_left
      (go_simp
       rfl)
      refine env_yes HSZ H2.out ?_ (fun w' hS => ?_) ?_
      rotate_left
      (go_simp
       rfl)
      refine env_yes HSZ H3.out ?_ (fun w' hS => ?_) ?_
      rotate_left
      (have h := (hS.cell (p := ⟨b1, o1 + k, none⟩) l1).trans d1
       go_simp
       rfl)
      refine env_yes HSZ H4.out ?_ (fun w' hS => ?_) ?_
      rotate_left
      (go_simp
       rfl)
      refine env_yes HSZ H5.out ?_ (fun w' hS => ?_) ?_
      rotate_left
      (go_simp
       rfl)
      refine env_yes HSZ H6.out ?_ (fun w' hS => ?_) ?_
      rotate_left
      (go_simp
       rfl)
      refine env_yes HSZ H7.out ?_ (fun w' hS => ?_) ?_
      rotate_left
      (have h := (hS.cell (p := ⟨b2, o2 + k, none⟩) l2).trans d2
       go_simp
       rfl)
      refine env_yes HSZ H8.out ?_ (fun w' hS => ?_) ?_
      rotate_left
      (go_simp
       rfl)
      refine env_end ?_
      have hfr := HFR.out
      clear HFR HSZ H0 H1 H2 H3 H4 H5 H6 H7 H8 x_0 x_5 x_1
      subst hfr
      simp only [putAll, Act.put, List.setIfInBounds_toArray, List.set_cons_succ, List.set_cons_zero]
      go_wp2_with fail
      go_roundw
      case rel => exact ⟨k + 1, by omega, by go_num, hb3⟩
      case measure => first | (simp [intOf]; done) | (simp [intOf]; omega)
    · obtain rfl : k = n := by omega
      go_wp2_with fail
      go_ret
      exact ⟨rfl, hbel.out⟩
end Go.Proofs.YtlopbheahedofaaDoor.Lib
