/- Walk of sameLink on two reports that read the same. Conditions: those of the theorem. -/
import Derived.Test.YtlopbheahedofaaGLinkReport
import Derived.Test.YtlopbheahedofaaEnv
set_option linter.unusedVariables false
namespace Go.Proofs.Ytlopbheahedofaa.Fn
open Go Go.RowKit Go.Proofs.Ytlopbheahedofaa.Lib Go.Proofs.Ytlopbheahedofaa.Plan
attribute [local go_sem] look_tmp look_const look_func look_global lookT_nil lookT_hit lookT_miss

theorem report_open {tr : Prop} {w : World} {S : Nat → Prop} {r : ALinkReport} {cs : List Value} (h : RLinkReport.rd tr w S r cs) :
    ∃ A c B d, cs = [.int .i64 r.1, .int .i64 r.2.1, .int .i64 r.2.2.1, .slice A r.2.2.2.1.length c, .slice B r.2.2.2.2.length d] ∧
      Rec.str.sl.rd tr w S r.2.2.2.1 [.slice A r.2.2.2.1.length c] ∧ RPacket.sl.rd tr w S r.2.2.2.2 [.slice B r.2.2.2.2.length d] := by
  obtain ⟨_, _, _, _, rfl, p0, q0, i0, j0, -⟩ := h
  obtain ⟨_, _, _, _, rfl, p1, q1, i1, j1, -⟩ := q0
  obtain ⟨_, _, _, _, rfl, p2, q2, i2, j2, -⟩ := q1
  obtain ⟨_, _, _, _, rfl, p3, q3, i3, j3, -⟩ := q2
  have h3 := Rec.str.sl.mono p3 (S' := S) (fun b h => j0 b (j1 b (j2 b (i3 b h))))
  have h4 := RPacket.sl.mono q3 (S' := S) (fun b h => j0 b (j1 b (j2 b (j3 b h))))
  obtain rfl := p0
  obtain rfl := p1
  obtain rfl := p2
  obtain ⟨A, c, rfl, -⟩ := id h3
  obtain ⟨B, d, rfl, -⟩ := id h4
  exact ⟨A, c, B, d, rfl, h3, h4⟩
theorem str_at {w wr : World} {xs : List ByteArray} {A : Option Addr} (h : SlOf Rec.str.k (Rec.str.rd False w) False w (Old w) xs A) (hb : Below w.heap.size w wr) (k : Nat) (hk : k < xs.length) :
    ∃ b o, A = some ⟨b, o, none⟩ ∧ b < wr.heap.size ∧ wr.cell? ⟨b, o + k, none⟩ = some (.string xs[k]) := by
  rcases h with h0 | ⟨b, o, rfl, hbl, f, hf, -, hrow⟩
  · rw [h0] at hk; exact absurd hk (Nat.not_lt_zero _)
  obtain ⟨cs, hr, hc⟩ := hrow k hk
  obtain rfl := hr
  have h1 := hc 0 (by decide)
  rw [show o + k * Rec.str.k + 0 = o + k from by show o + k * 1 + 0 = o + k; omega] at h1
  exact ⟨b, o, rfl, Nat.lt_of_lt_of_le hbl hb.size, (hb.cell (p := ⟨b, o + k, none⟩) hbl).trans h1⟩
theorem pkt_at {w wr : World} {xs : List APacket} {A : Option Addr} (h : SlOf RPacket.k (RPacket.rd False w) False w (Old w) xs A) (hb : Below w.heap.size w wr) (k : Nat) (hk : k < xs.length) :
    ∃ b o, A = some ⟨b, o, none⟩ ∧ b < wr.heap.size ∧ wr.cell? ⟨b, o + k * 2, none⟩ = some (.bool xs[k].1) ∧ wr.cell? ⟨b, o + k * 2 + 1, none⟩ = some (.string xs[k].2) := by
  rcases h with h0 | ⟨b, o, rfl, hbl, f, hf, -, hrow⟩
  · rw [h0] at hk; exact absurd hk (Nat.not_lt_zero _)
  obtain ⟨cs, hr, hc⟩ := hrow k hk
  obtain ⟨_, _, _, _, rfl, p0, q0, -⟩ := hr
  obtain rfl := p0
  obtain rfl := q0
  have h0 := hc 0 (by decide)
  have h1 := hc 1 (by decide)
  exact ⟨b, o, rfl, Nat.lt_of_lt_of_le hbl hb.size, (hb.cell (p := ⟨b, o + k * 2, none⟩) hbl).trans h0, (hb.cell (p := ⟨b, o + k * 2 + 1, none⟩) hbl).trans h1⟩
set_option maxRecDepth 100000 in
set_option maxHeartbeats 4000000 in
theorem sameLink (r : ALinkReport) (cs ds : List Value) (w : World) (h1 : RLinkReport.rd False w (Old w) r cs) (h2 : RLinkReport.rd False w (Old w) r ds) (ho : r.2.2.2.1.length ≤ 1048576 ∧ r.2.2.2.2.length ≤ 1048576) :
    Calls Try.prog 10 #[.agg cs.toArray, .agg ds.toArray] w fun e w' => e = .returned (.bool true) ∧ Below w.heap.size w w' := by
  obtain ⟨A, c, B, d, rfl, ht1, hw1⟩ := report_open h1
  obtain ⟨A2, c2, B2, d2, rfl, ht2, hw2⟩ := report_open h2
  clear h1 h2
  obtain ⟨g, a, p, ts, ws⟩ := r
  dsimp only at *
  obtain ⟨_, _, e, cap1, st1⟩ := ht1
  injection e with e _; injection e with e _ e'; subst e e'
  obtain ⟨_, _, e, cap2, st2⟩ := ht2
  injection e with e _; injection e with e _ e'; subst e e'
  obtain ⟨_, _, e, cap3, sw1⟩ := hw1
  injection e with e _; injection e with e _ e'; subst e e'
  obtain ⟨_, _, e, cap4, sw2⟩ := hw2
  injection e with e _; injection e with e _ e'; subst e e'
  obtain ⟨ho1, ho2⟩ := ho
  obtain ⟨nt, hnt⟩ : ∃ x, x = ts.length := ⟨_, rfl⟩
  obtain ⟨nw, hnw⟩ : ∃ x, x = ws.length := ⟨_, rfl⟩
  rw [← hnt] at cap1 cap2 ho1 ⊢
  rw [← hnw] at cap3 cap4 ho2 ⊢
  have HNT := Aside.mk hnt
  have HNW := Aside.mk hnw
  have ST1 := Aside.mk st1
  have ST2 := Aside.mk st2
  have SW1 := Aside.mk sw1
  have SW2 := Aside.mk sw2
  clear st1 st2 sw1 sw2 hnt hnw
  show Calls Try.prog 10 #[.agg #[.int .i64 g, .int .i64 a, .int .i64 p, .slice A nt c, .slice B nw d], .agg #[.int .i64 g, .int .i64 a, .int .i64 p, .slice A2 nt c2, .slice B2 nw d2]] w _
  obtain ⟨w2, hw2⟩ : ∃ x, x = (w.alloc (.cells #[.int .i64 g, .int .i64 a, .int .i64 p, .slice A nt c, .slice B nw d] 30)).alloc (.cells #[.int .i64 g, .int .i64 a, .int .i64 p, .slice A2 nt c2, .slice B2 nw d2] 30) := ⟨_, rfl⟩
  have K1 : Aside (Blk w2 w.heap.size 30 [.int .i64 g, .int .i64 a, .int .i64 p, .slice A nt c, .slice B nw d]) := ⟨by rw [hw2]; exact (Blk.new w 30 [.int .i64 g, .int .i64 a, .int .i64 p, .slice A nt c, .slice B nw d]).alloc _⟩
  have K2 : Aside (Blk w2 (w.heap.size + 1) 30 [.int .i64 g, .int .i64 a, .int .i64 p, .slice A2 nt c2, .slice B2 nw d2]) := ⟨by rw [hw2]; exact Blk.made _ 30 [.int .i64 g, .int .i64 a, .int .i64 p, .slice A2 nt c2, .slice B2 nw d2] (by simp)⟩
  have BEL : Aside (Below w.heap.size w w2) := ⟨by rw [hw2]; go_grown⟩
  have y3 := K1.out.cell 3
  have y4 := K1.out.cell 4
  have z3 := K2.out.cell 3
  have z4 := K2.out.cell 4
  simp only [List.getElem?_cons_zero, List.getElem?_cons_succ] at y3 y4 z3 z4
  have HW := Aside.mk hw2
  clear hw2
  go_enter Try.func10, Try.ntmps10
  go_wp2_with fail
  rw [← HW.out]
  go_loopw [5] (fun i wr => ∃ k : Nat, k ≤ nt ∧ i = .int .i64 k ∧ Aside (Below w.heap.size w wr) ∧ Aside (Below w2.heap.size w2 wr)) (fun i _ => nt - (intOf i).toNat)
  case atStart => exact ⟨0, Nat.zero_le _, rfl, BEL, ⟨Below.refl _ _⟩⟩
  case round =>
    obtain ⟨k, hk, rfl, hbel, hb2⟩ := hrel
    clear y3 y4 z3 z4
    have y3 := (K1.out.below hb2.out).cell 3
    have z3 := (K2.out.below hb2.out).cell 3
    simp only [List.getElem?_cons_zero, List.getElem?_cons_succ] at y3 z3
    have l3 := (K1.out.below hb2.out).lt
    have l4 := (K2.out.below hb2.out).lt
    by_cases hlt : k < nt
    · have hlt2 : k < ts.length := by rw [← HNT.out]; exact hlt
      obtain ⟨b1, o1, rfl, l1, d1⟩ := str_at ST1.out hbel.out k hlt2
      obtain ⟨b2, o2, rfl, l2, d2⟩ := str_at ST2.out hbel.out k hlt2
      obtain ⟨x, hx⟩ : ∃ x, x = ts[k] := ⟨_, rfl⟩
      rw [← hx] at d1 d2
      have hb3 := Aside.mk hbel.out.drew
      have hb4 := Aside.mk hb2.out.drew
      have ut : (k : Int) < nt := by omega
      clear hx hbel hb2
      go_wp2_with fail
      refine region_env [(0, true), (1, true), (2, true), (3, true), (4, true), (5, true), (6, true), (7, true), (8, true), (9, true), (10, true)] (fun w' => Below wr.heap.size wr w') 80 rfl (by kernel_rfl) (by kernel_rfl) (fun _ _ d _ _ h => by cases d <;> exact h) ((Below.refl _ _).drew) (fun ops fr HFR HSZ hl => ?_)
      have hl_0 := ops_start hl
      clear hl
      obtain ⟨H0, hl_1⟩ := ops_next 0 1 rfl hl_0
      clear hl_0
      obtain ⟨H1, hl_2⟩ := ops_next 1 2 rfl hl_1
      clear hl_1
      obtain ⟨H2, hl_3⟩ := ops_next 2 3 rfl hl_2
      clear hl_2
      obtain ⟨H3, hl_4⟩ := ops_next 3 4 rfl hl_3
      clear hl_3
      obtain ⟨H4, hl_5⟩ := ops_next 4 5 rfl hl_4
      clear hl_4
      obtain ⟨H5, hl_6⟩ := ops_next 5 6 rfl hl_5
      clear hl_5
      obtain ⟨H6, hl_7⟩ := ops_next 6 7 rfl hl_6
      clear hl_6
      obtain ⟨H7, hl_8⟩ := ops_next 7 8 rfl hl_7
      clear hl_7
      obtain ⟨H8, hl_9⟩ := ops_next 8 9 rfl hl_8
      clear hl_8
      obtain ⟨H9, hl_10⟩ := ops_next 9 10 rfl hl_9
      clear hl_9
      obtain ⟨H10, hl_11⟩ := ops_next 10 11 rfl hl_10
      clear hl_10
      clear hl_11
      have x_2 : ext fr 2 = _ := congrArg (fun a => Act.eval a (.tmp 2)) HFR.out
      conv at x_2 => rhs; simp only [Act.eval, Array.getD_eq_getD_getElem?, List.getElem?_toArray, List.getElem?_cons_succ, List.getElem?_cons_zero, Option.getD_some]
      have x_5 : ext fr 5 = _ := congrArg (fun a => Act.eval a (.tmp 5)) HFR.out
      conv at x_5 => rhs; simp only [Act.eval, Array.getD_eq_getD_getElem?, List.getElem?_toArray, List.getElem?_cons_succ, List.getElem?_cons_zero, Option.getD_some]
      have x_3 : ext fr 3 = _ := congrArg (fun a => Act.eval a (.tmp 3)) HFR.out
      conv at x_3 => rhs; simp only [Act.eval, Array.getD_eq_getD_getElem?, List.getElem?_toArray, List.getElem?_cons_succ, List.getElem?_cons_zero, Option.getD_some]
      refine env_yes HSZ H0.out ?_ (fun w' hS => ?_) ?_
      rotate_left
      (go_simp
       rfl)
      refine env_yes HSZ H1.out ?_ (fun w' hS => ?_) ?_
      rotate_left
      (have h := (hS.cell (p := ⟨w.heap.size, 3, none⟩) l3).trans y3
       go_simp
       rfl)
      refine env_yes HSZ H2.out ?_ (fun w' hS => ?_) ?_
      rotate_left
      (go_simp
       rfl)
      refine env_yes HSZ H3.out ?_ (fun w' hS => ?_) ?_
      rotate_left
      (go_simp
       rfl)
      refine env_yes HSZ H4.out ?_ (fun w' hS => ?_) ?_
      rotate_left
      (have h := (hS.cell (p := ⟨b1, o1 + k, none⟩) l1).trans d1
       go_simp
       rfl)
      refine env_yes HSZ H5.out ?_ (fun w' hS => ?_) ?_
      rotate_left
      (go_simp
       rfl)
      refine env_yes HSZ H6.out ?_ (fun w' hS => ?_) ?_
      rotate_left
      (have h := (hS.cell (p := ⟨w.heap.size + 1, 3, none⟩) l4).trans z3
       go_simp
       rfl)
      refine env_yes HSZ H7.out ?_ (fun w' hS => ?_) ?_
      rotate_left
      (go_simp
       rfl)
      refine env_yes HSZ H8.out ?_ (fun w' hS => ?_) ?_
      rotate_left
      (go_simp
       rfl)
      refine env_yes HSZ H9.out ?_ (fun w' hS => ?_) ?_
      rotate_left
      (have h := (hS.cell (p := ⟨b2, o2 + k, none⟩) l2).trans d2
       go_simp
       rfl)
      refine env_yes HSZ H10.out ?_ (fun w' hS => ?_) ?_
      rotate_left
      (go_simp
       rfl)
      refine env_end ?_
      have hfr := HFR.out
      clear HFR HSZ H0 H1 H2 H3 H4 H5 H6 H7 H8 H9 H10 x_2 x_5 x_3
      subst hfr
      simp only [putAll, Act.put, List.setIfInBounds_toArray, List.set_cons_succ, List.set_cons_zero]
      go_wp2_with fail
      go_roundw
      case rel => exact ⟨k + 1, by omega, by go_num, hb3, hb4⟩
      case measure => first | (simp [intOf]; done) | (simp [intOf]; omega)
    obtain rfl : k = nt := by omega
    go_wp2_with fail
    go_loopw [6] (fun i wx => ∃ k : Nat, k ≤ nw ∧ i = .int .i64 k ∧ Aside (Below w.heap.size w wx) ∧ Aside (Below w2.heap.size w2 wx)) (fun i _ => nw - (intOf i).toNat)
    case atStart => exact ⟨0, Nat.zero_le _, rfl, hbel, hb2⟩
    case round =>
      rename_i wy _
      obtain ⟨j, hj, rfl, hbel', hb2'⟩ := hrel
      clear y3 z3 l3 l4
      have y4 := (K1.out.below hb2'.out).cell 4
      have z4 := (K2.out.below hb2'.out).cell 4
      simp only [List.getElem?_cons_zero, List.getElem?_cons_succ] at y4 z4
      have l3 := (K1.out.below hb2'.out).lt
      have l4 := (K2.out.below hb2'.out).lt
      by_cases hlt : j < nw
      · have hlt2 : j < ws.length := by rw [← HNW.out]; exact hlt
        obtain ⟨b1, o1, rfl, l1, d1, d1'⟩ := pkt_at SW1.out hbel'.out j hlt2
        obtain ⟨b2, o2, rfl, l2, d2, d2'⟩ := pkt_at SW2.out hbel'.out j hlt2
        obtain ⟨⟨x, y⟩, hx⟩ : ∃ x, x = ws[j] := ⟨_, rfl⟩
        rw [← hx] at d1 d2 d1' d2'
        dsimp only at d1 d2 d1' d2'
        have hb3 := Aside.mk hbel'.out.drew
        have hb4 := Aside.mk hb2'.out.drew
        have ut : (j : Int) < nw := by omega
        clear hx hbel' hb2' hbel hb2
        go_wp2_with fail
        refine region_env [(0, true), (1, true), (2, true), (3, true), (4, true), (5, true), (6, true), (7, true), (8, true), (9, true), (10, true)] (fun w' => Below wr.heap.size wr w') 80 rfl (by kernel_rfl) (by kernel_rfl) (fun _ _ d _ _ h => by cases d <;> exact h) ((Below.refl _ _).drew) (fun ops fr HFR HSZ hl => ?_)
        have hl_0 := ops_start hl
        clear hl
        obtain ⟨H0, hl_1⟩ := ops_next 0 1 rfl hl_0
        clear hl_0
        obtain ⟨H1, hl_2⟩ := ops_next 1 2 rfl hl_1
        clear hl_1
        obtain ⟨H2, hl_3⟩ := ops_next 2 3 rfl hl_2
        clear hl_2
        obtain ⟨H3, hl_4⟩ := ops_next 3 4 rfl hl_3
        clear hl_3
        obtain ⟨H4, hl_5⟩ := ops_next 4 5 rfl hl_4
        clear hl_4
        obtain ⟨H5, hl_6⟩ := ops_next 5 6 rfl hl_5
        clear hl_5
        obtain ⟨H6, hl_7⟩ := ops_next 6 7 rfl hl_6
        clear hl_6
        obtain ⟨H7, hl_8⟩ := ops_next 7 8 rfl hl_7
        clear hl_7
        obtain ⟨H8, hl_9⟩ := ops_next 8 9 rfl hl_8
        clear hl_8
        obtain ⟨H9, hl_10⟩ := ops_next 9 10 rfl hl_9
        clear hl_9
        obtain ⟨H10, hl_11⟩ := ops_next 10 11 rfl hl_10
        clear hl_10
        clear hl_11
        have x_2 : ext fr 2 = _ := congrArg (fun a => Act.eval a (.tmp 2)) HFR.out
        conv at x_2 => rhs; simp only [Act.eval, Array.getD_eq_getD_getElem?, List.getElem?_toArray, List.getElem?_cons_succ, List.getElem?_cons_zero, Option.getD_some]
        have x_6 : ext fr 6 = _ := congrArg (fun a => Act.eval a (.tmp 6)) HFR.out
        conv at x_6 => rhs; simp only [Act.eval, Array.getD_eq_getD_getElem?, List.getElem?_toArray, List.getElem?_cons_succ, List.getElem?_cons_zero, Option.getD_some]
        have x_3 : ext fr 3 = _ := congrArg (fun a => Act.eval a (.tmp 3)) HFR.out
        conv at x_3 => rhs; simp only [Act.eval, Array.getD_eq_getD_getElem?, List.getElem?_toArray, List.getElem?_cons_succ, List.getElem?_cons_zero, Option.getD_some]
        refine env_yes HSZ H0.out ?_ (fun w' hS => ?_) ?_
        rotate_left
        (go_simp
         rfl)
        refine env_yes HSZ H1.out ?_ (fun w' hS => ?_) ?_
        rotate_left
        (have h := (hS.cell (p := ⟨w.heap.size, 4, none⟩) l3).trans y4
         go_simp
         rfl)
        refine env_yes HSZ H2.out ?_ (fun w' hS => ?_) ?_
        rotate_left
        (go_simp
         rfl)
        refine env_yes HSZ H3.out ?_ (fun w' hS => ?_) ?_
        rotate_left
        (go_simp
         rfl)
        refine env_yes HSZ H4.out ?_ (fun w' hS => ?_) ?_
        rotate_left
        (have h0 := (hS.cell (p := ⟨b1, o1 + j * 2, none⟩) l1).trans d1
         have h1 := (hS.cell (p := ⟨b1, o1 + j * 2 + 1, none⟩) l1).trans d1'
         go_simp
         rfl)
        refine env_yes HSZ H5.out ?_ (fun w' hS => ?_) ?_
        rotate_left
        (go_simp
         rfl)
        refine env_yes HSZ H6.out ?_ (fun w' hS => ?_) ?_
        rotate_left
        (have h := (hS.cell (p := ⟨w.heap.size + 1, 4, none⟩) l4).trans z4
         go_simp
         rfl)
        refine env_yes HSZ H7.out ?_ (fun w' hS => ?_) ?_
        rotate_left
        (go_simp
         rfl)
        refine env_yes HSZ H8.out ?_ (fun w' hS => ?_) ?_
        rotate_left
        (go_simp
         rfl)
        refine env_yes HSZ H9.out ?_ (fun w' hS => ?_) ?_
        rotate_left
        (have h0 := (hS.cell (p := ⟨b2, o2 + j * 2, none⟩) l2).trans d2
         have h1 := (hS.cell (p := ⟨b2, o2 + j * 2 + 1, none⟩) l2).trans d2'
         go_simp
         rfl)
        refine env_yes HSZ H10.out ?_ (fun w' hS => ?_) ?_
        rotate_left
        (go_simp
         rfl)
        refine env_end ?_
        have hfr := HFR.out
        clear HFR HSZ H0 H1 H2 H3 H4 H5 H6 H7 H8 H9 H10 x_2 x_6 x_3
        subst hfr
        simp only [putAll, Act.put, List.setIfInBounds_toArray, List.set_cons_succ, List.set_cons_zero]
        go_wp2_with fail
        go_roundw
        case rel => exact ⟨j + 1, by omega, by go_num, hb3, hb4⟩
        case measure => first | (simp [intOf]; done) | (simp [intOf]; omega)
      · obtain rfl : j = nw := by omega
        go_wp2_with fail
        go_ret
        exact ⟨rfl, hbel'.out⟩
end Go.Proofs.Ytlopbheahedofaa.Fn
