/- Walk of the reference's SupOK. Conditions: those of each theorem. -/
import Derived.Test.YtjjnlbimegabpaaSup4
import Derived.BigQuiet
import Derived.Deep.QuietTactic
set_option linter.unusedVariables false
namespace Go.Proofs.Ytjjnlbimegabpaa.Fn
open Go.RowKit Go.Proofs.Ytjjnlbimegabpaa.Lib Go.Proofs.Ytjjnlbimegabpaa.Plan

theorem rdSupKid {tr : Prop} {w : World} {S : Nat → Prop} {a : ASupKid} {cs : List Value} (h : RSupKid.rd tr w S a cs) : cs = [.string a.1, .int .i64 a.2.1, .int .i64 a.2.2] := by
  obtain ⟨_, _, _, _, rfl, rfl, ⟨_, _, _, _, rfl, rfl, rfl, _⟩, _⟩ := h
  rfl
theorem kid_size {xs : List ASupKid} (ho : RSupKid.sl.ok xs) (j : Nat) (h : j < xs.length) : xs[j].1.size ≤ 9223372036854775807 := (ho.2 _ (List.getElem_mem h)).1
set_option maxRecDepth 100000 in
set_option maxHeartbeats 2000000 in
theorem sSupOK (a : ASupSpec) (cs : List Value) (w : World) (h : RSupSpec.rd False w (Old w) a cs) (ho : RSupSpec.ok a) :
    Calls Try.prog 38 #[.agg cs.toArray] w fun e w' => e = .returned (.bool (supB a)) ∧ Below w.heap.size w w' := by
  obtain ⟨a0, a1, a2, a3⟩ := a
  have ho2 : Rec.int.ok a0 ∧ (Rec.int.ok a1 ∧ (Rec.int.ok a2 ∧ RSupKid.sl.ok a3)) := ho
  obtain ⟨r0, r1, r2, o3⟩ := ho2
  obtain ⟨_, _, _, _, rfl, p0, q0, i0, j0, -⟩ := h
  obtain ⟨_, _, _, _, rfl, p1, q1, i1, j1, -⟩ := q0
  obtain ⟨_, _, _, _, rfl, p2, q2, i2, j2, -⟩ := q1
  have h3 := RSupKid.sl.mono q2 (fun b h => j0 b (j1 b (j2 b h)))
  obtain rfl := p0
  obtain rfl := p1
  obtain rfl := p2
  obtain ⟨A3, c3, rfl, hcap, h3⟩ := h3
  have H3 := Aside.mk h3
  have HZ := Aside.mk (kid_size o3)
  have hlen : a3.length ≤ 9223372036854775807 := o3.1
  have HQ : Aside (supB (a0, a1, a2, a3) = (headB a0 a1 a2 a3.length && (!(decide (a0 = 4) && !decide (a3.length = 1)) && kidsGo [] a3))) := ⟨rfl⟩
  obtain ⟨n, hln⟩ : ∃ n, n = a3.length := ⟨_, rfl⟩
  show Calls Try.prog 38 #[.agg #[.int .i64 a0, .int .i64 a1, .int .i64 a2, .slice A3 a3.length c3]] w _
  rw [← hln] at hcap hlen HQ ⊢
  have HL := Aside.mk hln
  generalize supB (a0, a1, a2, a3) = res at HQ ⊢
  clear h3 q2 i0 i1 i2 j0 j1 j2 o3 ho hln r0 r1 r2
  go_enter Try.func38, Try.ntmps38
  go_wp2_with fail
  refine (l05Between a0 1 4 _).mono ?_
  rintro e w' ⟨rfl, rfl⟩
  cases d0 : (decide (1 ≤ a0) && decide (a0 ≤ 4))
  · have E := Aside.mk (show res = false by rw [HQ.out, headB, show decide (1 ≤ a0 ∧ a0 ≤ 4) = false by simpa using d0]; rfl)
    go_wp2
    go_ret
    exact ⟨ret_bool E.out.symm, by go_grown⟩
  go_wp2_with fail
  refine (l05Between a1 0 50 _).mono ?_
  rintro e w' ⟨rfl, rfl⟩
  cases d1 : (decide (0 ≤ a1) && decide (a1 ≤ 50))
  · have E := Aside.mk (show res = false by rw [HQ.out, headB, show decide (0 ≤ a1 ∧ a1 ≤ 50) = false by simpa using d1]; simp)
    go_wp2
    go_ret
    exact ⟨ret_bool E.out.symm, by go_grown⟩
  go_wp2_with fail
  refine (l05Between a2 1 1000000000 _).mono ?_
  rintro e w' ⟨rfl, rfl⟩
  cases d2 : (decide (1 ≤ a2) && decide (a2 ≤ 1000000000))
  · have E := Aside.mk (show res = false by rw [HQ.out, headB, show decide (1 ≤ a2 ∧ a2 ≤ 1000000000) = false by simpa using d2]; simp)
    go_wp2
    go_ret
    exact ⟨ret_bool E.out.symm, by go_grown⟩
  by_cases d3 : n ≤ 30
  rotate_left
  · have E := Aside.mk (show res = false by rw [HQ.out, headB, show decide (n ≤ 30) = false by simpa using d3]; simp)
    go_wp2
    go_ret
    exact ⟨ret_bool E.out.symm, by go_grown⟩
  by_cases d4 : a0 = 4 ∧ n ≠ 1
  · have E := Aside.mk (show res = false by rw [HQ.out, show decide (a0 = 4) = true by simpa using d4.1, show decide (n = 1) = false by simpa using d4.2]; simp)
    have d5 : (a0 == 4) = true := by simpa using d4.1
    have d6 : ((n : Int) != 1) = true := by simp; omega
    clear d4
    go_wp2
    go_ret
    exact ⟨ret_bool E.out.symm, by go_grown⟩
  have E := Aside.mk (show res = kidsGo (namesTo a3 0) (a3.drop 0) by
    have e1 : headB a0 a1 a2 n = true := by simp [headB] at d0 d1 d2 ⊢; omega
    have e2 : (decide (a0 = 4) && !decide (n = 1)) = false := by simp; omega
    rw [HQ.out, e1, e2]; rfl)
  clear HQ
  have K0 := Aside.mk (Blk.new w 65 [.int .i64 a0, .int .i64 a1, .int .i64 a2, .slice A3 n c3])
  have B0 : Aside (Below w.heap.size w (w.alloc (.cells #[.int .i64 a0, .int .i64 a1, .int .i64 a2, .slice A3 n c3] 65))) := ⟨by go_grown⟩
  have key : (a0 == 4) = false ∨ ((a0 == 4) = true ∧ ((n : Int) != 1) = false) := by
    by_cases e : a0 = 4
    · exact Or.inr ⟨by simpa using e, by simp; omega⟩
    · exact Or.inl (by simpa using e)
  clear d4
  rcases key with d4 | ⟨d4, d5⟩
  all_goals
    go_wp2_with fail
    go_loopw [3] (fun i wr => ∃ k : Nat, k ≤ n ∧ i = .int .i64 k ∧ Aside (Blk wr w.heap.size 65 [.int .i64 a0, .int .i64 a1, .int .i64 a2, .slice A3 n c3]) ∧ Aside (Below w.heap.size w wr) ∧ Aside (res = kidsGo (namesTo a3 k) (a3.drop k))) (fun i _ => n - (intOf i).toNat)
    case atStart => exact ⟨0, Nat.zero_le _, rfl, K0, B0, E⟩
    case round =>
      obtain ⟨k, hk, rfl, hk0, hb0, hres⟩ := hrel
      clear K0 B0 E
      have y0 := hk0.out.cell 0
      have y1 := hk0.out.cell 1
      have y2 := hk0.out.cell 2
      have y3 := hk0.out.cell 3
      simp only [List.getElem?_cons_zero, List.getElem?_cons_succ] at y0 y1 y2 y3
      by_cases hlt : k < n
      · have hlt2 : k < a3.length := by rw [← HL.out]; exact hlt
        rcases H3.out with h0 | ⟨b, o, rfl, hb, f, -, -, hrow⟩
        · exfalso; rw [h0] at hlt2; exact absurd hlt2 (Nat.not_lt_zero _)
        have HR : Aside (∀ (j : Nat) (h : j < a3.length), w.cell? ⟨b, o + j * 3, none⟩ = some (.string a3[j].1) ∧ w.cell? ⟨b, o + j * 3 + 1, none⟩ = some (.int .i64 a3[j].2.1) ∧ w.cell? ⟨b, o + j * 3 + 2, none⟩ = some (.int .i64 a3[j].2.2)) := ⟨fun j hj => by
          obtain ⟨cs, hr, hc⟩ := hrow j hj
          obtain rfl := rdSupKid hr
          exact ⟨hc 0 (by decide), hc 1 (by decide), hc 2 (by decide)⟩⟩
        clear hrow
        obtain ⟨c0, c1, c2⟩ := HR.out k hlt2
        have hstep := Aside.mk (kidsGo_step a3 k hlt2)
        have hz := HZ.out k hlt2
        generalize hx0 : a3[k].1 = x0 at c0 hstep hz
        generalize hx1 : a3[k].2.1 = x1 at c1 hstep
        generalize hx2 : a3[k].2.2 = x2 at c2 hstep
        have X0 := Aside.mk hx0
        clear hx0 hx1 hx2
        have d0 := (hb0.out.cell (p := ⟨b, o + k * 3, none⟩) hb).trans c0
        have d1 := (hb0.out.cell (p := ⟨b, o + k * 3 + 1, none⟩) hb).trans c1
        have d2 := (hb0.out.cell (p := ⟨b, o + k * 3 + 2, none⟩) hb).trans c2
        clear c0 c1 c2
        go_wp2_with fail
        refine (l03Atom x0 _ hz).mono ?_
        rintro e w' ⟨rfl, rfl⟩
        cases hA : atomB x0
        · have hE : Aside (res = false) := ⟨by rw [hres.out, hstep.out, kidB, hA]; rfl⟩
          go_wp2
          go_ret
          exact ⟨ret_bool hE.out.symm, ((hb0.out.alloc (by have := hb0.out.size; omega) _))⟩
        go_wp2_with fail
        refine (l05Between x1 1 3 _).mono ?_
        rintro e w' ⟨rfl, rfl⟩
        cases hB : (decide (1 ≤ x1) && decide (x1 ≤ 3))
        · have hE : Aside (res = false) := ⟨by rw [hres.out, hstep.out, kidB, hA, show decide (1 ≤ x1 ∧ x1 ≤ 3) = false by simpa using hB]; rfl⟩
          go_wp2
          go_ret
          exact ⟨ret_bool hE.out.symm, ((hb0.out.alloc (by have := hb0.out.size; omega) _))⟩
        go_wp2_with fail
        refine (l05Between x2 (-1) 1000000000 _).mono ?_
        rintro e w' ⟨rfl, rfl⟩
        cases hC : (decide (-1 ≤ x2) && decide (x2 ≤ 1000000000))
        · have hE : Aside (res = false) := ⟨by rw [hres.out, hstep.out, kidB, hA, show decide (1 ≤ x1 ∧ x1 ≤ 3) = true by simpa using hB, show decide (-1 ≤ x2 ∧ x2 ≤ 1000000000) = false by simpa using hC]; rfl⟩
          go_wp2
          go_ret
          exact ⟨ret_bool hE.out.symm, ((hb0.out.alloc (by have := hb0.out.size; omega) _))⟩
        replace hres : Aside (res = (!seenB x0 (namesTo a3 k) && kidsGo (namesTo a3 (k + 1)) (a3.drop (k + 1)))) := ⟨by
          rw [hres.out, hstep.out, kidB, hA, show decide (1 ≤ x1 ∧ x1 ≤ 3) = true by simpa using hB, show decide (-1 ≤ x2 ∧ x2 ≤ 1000000000) = true by simpa using hC]; rfl⟩
        have k4 := Blk.new wr 90 [.string x0, .int .i64 x1, .int .i64 x2]
        have k5 := hk0.out.alloc (.cells #[.string x0, .int .i64 x1, .int .i64 x2] 90)
        have bel := hb0.out.alloc (by have := hb0.out.size; omega) (.cells #[.string x0, .int .i64 x1, .int .i64 x2] 90)
        go_wp2_with fail
        change Blk (wr.alloc (.cells #[.string x0, .int .i64 x1, .int .i64 x2] 90)) _ _ _ at k4
        generalize wr.alloc (.cells #[.string x0, .int .i64 x1, .int .i64 x2] 90) = W at k4 k5 bel ⊢
        have K4 := Aside.mk k4
        have K5 := Aside.mk k5
        have BEL := Aside.mk bel
        generalize hg : wr.heap.size = g at K4 ⊢
        clear k4 k5 bel hstep hk0 hb0 d0 d1 d2 y0 y1 y2 y3 hg
        obtain ⟨w0, rfl⟩ : ∃ w0, w0 = wr := ⟨_, rfl⟩
        go_loopw [5] (fun j wr => ∃ i : Nat, i ≤ k ∧ j = .int .i64 i ∧ Aside (Below W.heap.size W wr) ∧ Aside (∀ (t : Nat) (h : t < a3.length), t < i → a3[t].1 ≠ x0)) (fun j _ => k - (intOf j).toNat)
        case atStart => exact ⟨0, Nat.zero_le _, rfl, ⟨Below.refl _ _⟩, ⟨fun t _ h => absurd h (Nat.not_lt_zero _)⟩⟩
        case round =>
          obtain ⟨i, hi, rfl, hbi, hne⟩ := hrel
          have z0 := (K4.out.below hbi.out).cell 0
          have z3 := (K5.out.below hbi.out).cell 3
          simp only [List.getElem?_cons_zero, List.getElem?_cons_succ] at z0 z3
          by_cases hlti : i < k
          · have hi3 : i < a3.length := by omega
            have bel2 := below_later BEL.out hbi.out
            have q0 := (bel2.cell (p := ⟨b, o + i * 3, none⟩) hb).trans (HR.out i hi3).1
            have BEL2 := Aside.mk bel2
            generalize hnm : a3[i].1 = nm at q0
            have NM := Aside.mk hnm
            clear hnm bel2
            go_wp2_with fail
            go_quiet (fail)
            have hb3 : Aside (Below W.heap.size W (wr.drewN nq)) := ⟨⟨hbi.out.os, hbi.out.tape, hbi.out.output, hbi.out.size, hbi.out.block⟩⟩
            go_wp2_with fail
            · rename_i hs
              have hE : Aside (res = false) := ⟨by
                have hm : x0 ∈ namesTo a3 k := mem_names.2 ⟨i, hi3, hlti, by rw [NM.out]; exact ext_list (by simpa using hs)⟩
                rw [hres.out, seenB_iff.2 hm]; rfl⟩
              go_ret
              exact ⟨ret_bool hE.out.symm, below_later BEL.out hb3.out⟩
            · rename_i hs
              have hne2 : Aside (∀ (t : Nat) (h : t < a3.length), t < i + 1 → a3[t].1 ≠ x0) := ⟨fun t ht hti => by
                by_cases e : t = i
                · subst e
                  rw [NM.out]
                  rintro rfl
                  simp at hs
                · exact hne.out t ht (by omega)⟩
              refine ⟨⟨i + 1, by omega, by go_num, hb3, hne2⟩, ?_⟩
              first | (simp [intOf]; done) | (simp [intOf]; omega)
          · obtain rfl : i = k := by omega
            have hE : Aside (res = kidsGo (namesTo a3 (i + 1)) (a3.drop (i + 1))) := ⟨by
              have hm : seenB x0 (namesTo a3 i) = false := by
                rw [← Bool.not_eq_true, seenB_iff, mem_names]
                rintro ⟨t, ht, htk, e⟩
                exact hne.out t ht htk e
              rw [hres.out, hm]; rfl⟩
            have bel2 := Aside.mk (below_later BEL.out hbi.out)
            have blk2 := Aside.mk (K5.out.below hbi.out)
            clear hres hne BEL K5 K4
            go_wp2_with fail
            go_roundw
            case rel => exact ⟨i + 1, by omega, by go_num, blk2, bel2, hE⟩
            case measure => first | (simp [intOf]; done) | (simp [intOf]; omega)
      · obtain rfl : k = n := by omega
        have hE : Aside (res = true) := ⟨by
          rw [hres.out]
          have := HL.out
          subst this
          exact kidsGo_end a3⟩
        go_wp2_with fail
        go_ret
        exact ⟨ret_bool hE.out.symm, hb0.out⟩
end Go.Proofs.Ytjjnlbimegabpaa.Fn
