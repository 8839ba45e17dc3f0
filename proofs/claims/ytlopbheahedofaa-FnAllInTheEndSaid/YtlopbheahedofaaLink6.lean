/- Walks of an act that sends, both sides. Conditions: those of each theorem. -/
import Derived.Test.YtlopbheahedofaaLink5
set_option linter.unusedVariables false
namespace Go.Proofs.Ytlopbheahedofaa.Fn
open Go Go.RowKit Go.Proofs.Ytlopbheahedofaa.Lib Go.Proofs.Ytlopbheahedofaa.Plan
attribute [local go_sem] look_tmp look_const look_func look_global lookT_nil lookT_hit lookT_miss

set_option maxRecDepth 100000 in
set_option maxHeartbeats 16000000 in
theorem iAct1 (base g win KK : Nat) (s : Lk) (n : Int) (t : ByteArray) (w : World) (h : LkAt w base g 61 win s) (ok : LkOK KK s) (okA : LkOK KK (actK 1 n.toNat t s)) (hk : KK ≤ 1000000) (hwin : win ≤ 16)  :
    Calls Try.prog 25 #[.pointer (some ⟨g, 0, none⟩), .agg #[.int .i64 1, .int .i64 n, .string t]] w fun e w' => e = .returned (.tuple #[]) ∧ LkAt w' base g 61 win (turnK win (1, n, t) s) ∧ Below base w w' := by
  obtain ⟨vg, vt, vw, hv⟩ := h
  obtain ⟨A, cap, rfl, hcap, -⟩ := own_shape hv.og
  obtain ⟨B, cB, rfl, hcB, -⟩ := own_shape hv.ow
  have lg : g < w.heap.size := hv.blk.lt
  have HW := Aside.mk hv
  obtain ⟨s9, hs9⟩ : ∃ x, x = turnK win (1, n, t) s := ⟨_, rfl⟩
  obtain ⟨sA, hsA⟩ : ∃ x, x = actK 1 n.toNat t s := ⟨_, rfl⟩
  have HR : Aside (s9 = fillK win (sA.given.length - sA.packed) sA) := ⟨by rw [hs9, hsA]; rfl⟩
  have HSA := Aside.mk hsA
  rw [← hs9]
  rw [← hsA] at okA
  have OKA := Aside.mk okA
  have OKS := Aside.mk ok
  have hgl : s.given.length ≤ KK := ok.given
  have hwl : s.way.length ≤ 100 := ok.way
  have hpl : s.packed ≤ s.given.length := ok.packed
  have hal : s.acked ≤ s.packed := ok.acked
  clear hs9 hsA okA ok
  obtain ⟨ng, hng⟩ : ∃ x, x = s.given.length := ⟨_, rfl⟩
  obtain ⟨nw, hnw⟩ : ∃ x, x = s.way.length := ⟨_, rfl⟩
  obtain ⟨pk0, hpk0⟩ : ∃ x, x = s.packed := ⟨_, rfl⟩
  obtain ⟨ak0, hak0⟩ : ∃ x, x = s.acked := ⟨_, rfl⟩
  have HNG := Aside.mk hng
  have HNW := Aside.mk hnw
  have HPK0 := Aside.mk hpk0
  have HAK0 := Aside.mk hak0
  have y1 := hv.blk.cell 1
  have y2 := hv.blk.cell 2
  have y3 := hv.blk.cell 3
  have y5 := hv.blk.cell 5
  simp only [List.getElem?_cons_zero, List.getElem?_cons_succ] at y1 y2 y3 y5
  rw [← hng] at y1 hgl hcap hpl
  rw [← hnw] at y5 hwl hcB
  rw [← hpk0] at y3 hpl hal
  rw [← hak0] at y2 hal
  clear hv hng hnw hpk0 hak0
  go_enter Try.func25, Try.ntmps25
  go_wp2_with fail
  have bel : Below w.heap.size w (w.alloc (.cells #[.int .i64 1, .int .i64 n, .string t] 34)) := by go_grown
  have HV := Aside.mk (HW.out.below bel)
  have K1 := Aside.mk (Blk.new w 34 [.int .i64 1, .int .i64 n, .string t])
  have BB : Aside (Below base w (w.alloc (.cells #[.int .i64 1, .int .i64 n, .string t] 34))) := ⟨bel.mono HW.out.lt⟩
  obtain ⟨w1, hw1⟩ : ∃ x, x = w.alloc (.cells #[.int .i64 1, .int .i64 n, .string t] 34) := ⟨_, rfl⟩
  obtain ⟨gp, hgp⟩ : ∃ x, x = w.heap.size := ⟨_, rfl⟩
  have hgp1 : w1.heap.size = gp + 1 := by rw [hw1, hgp]; simp
  have HGP := Aside.mk hgp
  rw [← hw1] at HV K1 BB ⊢
  rw [← hgp] at K1 lg ⊢
  clear bel hw1 hgp y1 y2 y3 y5
  have y1 : w1.cell? ⟨g, 1, none⟩ = some (.slice A ng cap) := by have h := HV.out.blk.cell 1; rw [HNG.out]; exact h
  have y2 : w1.cell? ⟨g, 2, none⟩ = some (.int .i64 ak0) := by have h := HV.out.blk.cell 2; rw [HAK0.out]; exact h
  have y3 : w1.cell? ⟨g, 3, none⟩ = some (.int .i64 pk0) := by have h := HV.out.blk.cell 3; rw [HPK0.out]; exact h
  have y5 : w1.cell? ⟨g, 5, none⟩ = some (.slice B nw cB) := by have h := HV.out.blk.cell 5; rw [HNW.out]; exact h
  have a0 : w1.cell? ⟨gp, 0, none⟩ = some (.int .i64 1) := K1.out.cell 0
  have a1 : w1.cell? ⟨gp, 1, none⟩ = some (.int .i64 n) := K1.out.cell 1
  have a2 : w1.cell? ⟨gp, 2, none⟩ = some (.string t) := K1.out.cell 2
  have lp : gp < w1.heap.size := K1.out.lt
  have lg1 : g < w1.heap.size := HV.out.blk.lt
  have hgw : (Value.slice A ng cap).ownBlock ≠ some g := fun h => HV.out.gg g (by rw [← HNG.out]; exact h) rfl
  have hgp3 : (Value.slice A ng cap).ownBlock ≠ some gp := fun h => by have h2 := (own_lt HW.out.og (g := gp) (by rw [← HNG.out]; exact h)).2; have := HGP.out; omega
  have OWN : w1.ownsRow base 9 1 (.slice A ng cap) ng (cstr s.given) := by have := HV.out.og; rwa [← HNG.out] at this
  obtain ⟨j0, hj0, jz0, jz1, jz2⟩ := info_parts infoStr
  obtain ⟨w8, A8, cap8, hrun, hown, hkeep, hb8, hnew, hs8, hc8⟩ := own_app (P := Try.prog) (t := 27) (w1 := w1.drew) j0 _ Try.underlying27 hj0 jz0 jz1 jz2 rfl (by decide) OWN.drew [.string t] rfl (fun u hu => by simp at hu; subst hu; rfl) (by unfold maxLen; omega) (by omega) HV.out.lt
  have hg8 : (Value.slice A8 (ng + 1) cap8).ownBlock ≠ some g := fun h => by rcases hnew with e | ⟨bq, e, hq⟩; exact hgw (by rw [← e]; exact h); rw [e] at h; injection h with h; change w1.heap.size ≤ bq at hq; omega
  have hbk : Blk w8 g 61 [.int .i64 win, .slice A ng cap, .int .i64 s.acked, .int .i64 s.packed, vt, .slice B s.way.length cB] := by
    have h := HV.out.blk
    rw [← HNG.out] at h
    exact (hkeep g lg1 hgw).trans h
  have EA : sA = { s with given := s.given ++ [t] } := by rw [HSA.out]; rfl
  have HZ : Aside (LkAt (w8.setCell ⟨g, 1, none⟩ (.slice A8 (ng + 1) cap8)) base g 61 win sA) := ⟨by
    rw [EA]
    refine ⟨.slice A8 (ng + 1) cap8, vt, _, HV.out.setGiven (s.given ++ [t]) (hbk.set 1 _) ?_ ?_ ?_⟩
    · rw [cstr_snoc] at hown
      rw [List.length_append, ← HNG.out]
      exact ownsRow_of_block hown (fun q hq => heap_far (fun e => hg8 (by rw [hq, e])))
    · intro b hb hg hr
      rw [heap_far hg]
      exact hkeep b hb (by rw [HNG.out]; exact hr)
    · rw [← HNG.out]; exact hnew⟩
  have BZ : Aside (Below base w (w8.setCell ⟨g, 1, none⟩ (.slice A8 (ng + 1) cap8))) := ⟨(BB.out.drew.trans hb8).setCell HV.out.hb _⟩
  have HBK := Aside.mk hbk
  have HRUN := Aside.mk hrun
  have hGp : Aside (¬ (gp = g ∨ (Value.slice A ng cap).ownBlock = some gp)) := ⟨fun h => by rcases h with h | h; omega; exact hgp3 h⟩
  have HS1 : Aside (But (fun c => c = g ∨ (Value.slice A ng cap).ownBlock = some c) w1 w8) := ⟨⟨hb8.os, hb8.tape, hb8.output, hb8.size, fun k hk hn => hkeep k hk (fun e => hn (Or.inr e))⟩⟩
  clear hj0 jz0 jz1 jz2 OWN hrun hown hkeep hb8 hnew hg8 hbk EA hgw hgp3
  refine region_env2 [(0, true), (1, true), (2, true), (3, true), (4, true), (5, true), (6, true), (7, false), (8, false), (9, true), (10, true), (11, false)] (fun w' => Below w1.heap.size w1 w') (fun w' => But (fun c => c = g ∨ (Value.slice A ng cap).ownBlock = some c) w1 w') 8 173 rfl (by kernel_rfl) (by kernel_rfl) (fun _ _ d _ _ h => by cases d <;> exact h) (fun w' h => But.below h) ((Below.refl _ _).drew) (fun ops fr HFR HSZ HWT hl => ?_)
  have hl_0 := ops_start hl
  clear hl
  obtain ⟨H0, hl_1⟩ := ops_next 0 1 rfl hl_0
  clear hl_0
  obtain ⟨H1, hl_2⟩ := ops_next 1 2 rfl hl_1
  clear hl_1
  obtain ⟨H2, hl_3⟩ := ops_next 2 3 rfl hl_2
  clear hl_2
  obtain ⟨H3, hl_4⟩ := ops_next 3 4 rfl hl_3
  clear hl_3
  obtain ⟨H4, hl_5⟩ := ops_next 4 5 rfl hl_4
  clear hl_4
  obtain ⟨H5, hl_6⟩ := ops_next 5 6 rfl hl_5
  clear hl_5
  obtain ⟨H6, hl_7⟩ := ops_next 6 7 rfl hl_6
  clear hl_6
  obtain ⟨H7, hl_8⟩ := ops_next 7 8 rfl hl_7
  clear hl_7
  obtain ⟨H8, hl_9⟩ := ops_next 8 9 rfl hl_8
  clear hl_8
  obtain ⟨H9, hl_10⟩ := ops_next 9 10 rfl hl_9
  clear hl_9
  obtain ⟨H10, hl_11⟩ := ops_next 10 11 rfl hl_10
  clear hl_10
  obtain ⟨H11, hl_12⟩ := ops_next 11 12 rfl hl_11
  clear hl_11
  clear hl_12
  have x_0 : ext fr 0 = _ := congrArg (fun a => Act.eval a (.tmp 0)) HFR.out
  conv at x_0 => rhs; simp only [Act.eval, Array.getD_eq_getD_getElem?, List.getElem?_toArray, List.getElem?_cons_succ, List.getElem?_cons_zero, Option.getD_some]
  have x_3 : ext fr 3 = _ := congrArg (fun a => Act.eval a (.tmp 3)) HFR.out
  conv at x_3 => rhs; simp only [Act.eval, Array.getD_eq_getD_getElem?, List.getElem?_toArray, List.getElem?_cons_succ, List.getElem?_cons_zero, Option.getD_some]
  refine env2_yes HSZ (by decide) H0.out ?_ (fun w' hS => ?_) ?_
  rotate_left
  (go_simp
   rfl)
  refine env2_yes HSZ (by decide) H1.out ?_ (fun w' hS => ?_) ?_
  rotate_left
  (go_simp
   rfl)
  refine env2_yes HSZ (by decide) H2.out ?_ (fun w' hS => ?_) ?_
  rotate_left
  (go_simp
   rfl)
  refine env2_yes HSZ (by decide) H3.out ?_ (fun w' hS => ?_) ?_
  rotate_left
  (go_simp
   rfl)
  refine env2_early HSZ (by decide) HWT (by kernel_rfl) H4.out ?_ (fun w' hS => ?_) ?_
  rotate_left
  (have h := (hS.cell (p := ⟨g, 1, none⟩) lg1).trans y1
   go_simp
   rfl)
  refine env2_yes HSZ (by decide) H5.out ?_ (fun w' hS => ?_) ?_
  rotate_left
  (go_simp
   rfl)
  refine env2_yes HSZ (by decide) H6.out ?_ (fun w' hS => ?_) ?_
  rotate_left
  (have h := (But.cell (o := 2) hS lp hGp.out).trans a2
   go_simp
   rfl)
  refine env2_run HSZ H7.out ?_ ?_ ?_ ?_ ?_
  rotate_left 2
  (go_simp; constructor <;> rfl)
  exact ((Below.refl _ _).alloc (Nat.le_refl _) _).drew
  refine env2_run HSZ H8.out ?_ ?_ ?_ ?_ ?_
  rotate_left 2
  rotate_right 2
  exact (.slice A8 (ng + 1) cap8)
  exact w8
  exact exec_app (v := .slice A ng cap) (v2 := .slice (some ⟨w1.heap.size, 0, none⟩) 1 1) _ _ (by go_simp) (by go_simp) HRUN.out
  exact HS1.out
  refine env2_yes HSZ (by decide) H9.out ?_ (fun w' hS => ?_) ?_
  rotate_left
  (go_simp
   rfl)
  refine env2_yes HSZ (by decide) H10.out ?_ (fun w' hS => ?_) ?_
  rotate_left
  (go_simp
   rfl)
  refine env2_store HSZ H11.out ?_ ?_ ?_ ?_
  rotate_left 1
  have c8 : w8.cell? ⟨g, 1, none⟩ = some (.slice A ng cap) := HBK.out.cell 1
  have f8 := HBK.out.free 1
  (go_simp; rfl)
  exact (show But (fun c => c = g ∨ (Value.slice A ng cap).ownBlock = some c) w1 w8 from HS1.out).set (p := ⟨g, 1, none⟩) (Or.inl rfl) _
  refine env2_end ?_
  have hfr := HFR.out
  clear HFR HSZ HWT H0 H1 H2 H3 H4 H5 H6 H7 H8 H9 H10 H11 x_0 x_3
  subst hfr
  simp only [putAll, Act.put, List.setIfInBounds_toArray, List.set_cons_succ, List.set_cons_zero]
  clear y1 y2 y3 y5 a0 a1 a2 HBK HRUN HS1 hGp
  obtain ⟨N9, hN9⟩ : ∃ N, N = sA.given.length := ⟨_, rfl⟩
  have HN9 := Aside.mk hN9
  have hN9b : N9 ≤ 1000000 := by have := OKA.out.given; omega
  clear hN9
  go_wp2_with fail
  go_loopw [] (fun wr => ∃ s' : Lk, Aside (LkAt wr base g 61 win s') ∧ Aside (Below base w wr) ∧ Aside (s9 = fillK win (s'.given.length - s'.packed) s') ∧ Aside (LkOK KK s') ∧ Aside (s'.given.length = N9)) (fun wr => N9 - natAt wr g 3)
  case atStart => exact ⟨sA, HZ, BZ, HR, OKA, ⟨HN9.out.symm⟩⟩
  case round =>
    obtain ⟨s', hat, hbz, hr9, hok, hgn⟩ := hrel
    clear HZ BZ HR OKA
    obtain ⟨vg', vt', vw', hv'⟩ := hat.out
    obtain ⟨A', cap', rfl, hcap', -⟩ := own_shape hv'.og
    have HV' := Aside.mk hv'
    have z0 := hv'.blk.cell 0
    have z1 := hv'.blk.cell 1
    have z2 := hv'.blk.cell 2
    have z3 := hv'.blk.cell 3
    simp only [List.getElem?_cons_zero, List.getElem?_cons_succ] at z0 z1 z2 z3
    have lgr : g < wr.heap.size := hv'.blk.lt
    rw [hgn.out] at z1 hcap'
    have hpk : s'.packed ≤ N9 := by rw [← hgn.out]; exact hok.out.packed
    have hak : s'.acked ≤ s'.packed := hok.out.acked
    have hmz : Aside (natAt wr g 3 = s'.packed) := ⟨natAt_of z3⟩
    obtain ⟨pk, hpe⟩ : ∃ pk, pk = s'.packed := ⟨_, rfl⟩
    obtain ⟨ak, hae⟩ : ∃ ak, ak = s'.acked := ⟨_, rfl⟩
    have HPE := Aside.mk hpe
    have HAE := Aside.mk hae
    rw [← hpe] at z3 hpk hak hmz
    rw [← hae] at z2 hak
    have hwr : IntKind.i64.wrap ((ak : Int) + (win : Int)) = (ak : Int) + (win : Int) := by rw [IntKind.wrap_i64]; omega
    clear hv' hpe hae hat
    by_cases c1 : (pk : Int) < N9
    · by_cases c2 : (pk : Int) < (ak : Int) + win
      · have HGO : Aside (s9 = fillK win ((stepK s').given.length - (stepK s').packed) (stepK s')) := ⟨by rw [hr9.out]; exact fillK_go (by rw [hgn.out, ← HPE.out]; omega) (by rw [← HPE.out, ← HAE.out]; omega)⟩
        have HOK2 : Aside (LkOK KK (stepK s')) := ⟨hok.out.step (by rw [hgn.out, ← HPE.out]; omega)⟩
        go_wp2_with fail
        refine region_env [(0, true), (1, true), (2, true), (3, true), (4, true), (5, true), (6, true), (7, true), (8, true), (9, true), (10, true), (11, true), (12, true), (13, true), (14, true), (15, true), (16, true), (17, true), (18, true), (19, true), (20, true), (21, true), (22, true), (23, true), (24, true), (25, true)] (fun w' => Below wr.heap.size wr w') 173 rfl (by kernel_rfl) (by kernel_rfl) (fun _ _ d _ _ h => by cases d <;> exact h) ((Below.refl _ _).drew) (fun ops fr HFR HSZ hl => ?_)
        have hl_0 := ops_start hl
        clear hl
        obtain ⟨H0, hl_1⟩ := ops_next 0 1 rfl hl_0
        clear hl_0
        obtain ⟨H1, hl_2⟩ := ops_next 1 2 rfl hl_1
        clear hl_1
        obtain ⟨H2, hl_3⟩ := ops_next 2 3 rfl hl_2
        clear hl_2
        obtain ⟨H3, hl_4⟩ := ops_next 3 4 rfl hl_3
        clear hl_3
        obtain ⟨H4, hl_5⟩ := ops_next 4 5 rfl hl_4
        clear hl_4
        obtain ⟨H5, hl_6⟩ := ops_next 5 6 rfl hl_5
        clear hl_5
        obtain ⟨H6, hl_7⟩ := ops_next 6 7 rfl hl_6
        clear hl_6
        obtain ⟨H7, hl_8⟩ := ops_next 7 8 rfl hl_7
        clear hl_7
        obtain ⟨H8, hl_9⟩ := ops_next 8 9 rfl hl_8
        clear hl_8
        obtain ⟨H9, hl_10⟩ := ops_next 9 10 rfl hl_9
        clear hl_9
        obtain ⟨H10, hl_11⟩ := ops_next 10 11 rfl hl_10
        clear hl_10
        obtain ⟨H11, hl_12⟩ := ops_next 11 12 rfl hl_11
        clear hl_11
        obtain ⟨H12, hl_13⟩ := ops_next 12 13 rfl hl_12
        clear hl_12
        obtain ⟨H13, hl_14⟩ := ops_next 13 14 rfl hl_13
        clear hl_13
        obtain ⟨H14, hl_15⟩ := ops_next 14 15 rfl hl_14
        clear hl_14
        obtain ⟨H15, hl_16⟩ := ops_next 15 16 rfl hl_15
        clear hl_15
        obtain ⟨H16, hl_17⟩ := ops_next 16 17 rfl hl_16
        clear hl_16
        obtain ⟨H17, hl_18⟩ := ops_next 17 18 rfl hl_17
        clear hl_17
        obtain ⟨H18, hl_19⟩ := ops_next 18 19 rfl hl_18
        clear hl_18
        obtain ⟨H19, hl_20⟩ := ops_next 19 20 rfl hl_19
        clear hl_19
        obtain ⟨H20, hl_21⟩ := ops_next 20 21 rfl hl_20
        clear hl_20
        obtain ⟨H21, hl_22⟩ := ops_next 21 22 rfl hl_21
        clear hl_21
        obtain ⟨H22, hl_23⟩ := ops_next 22 23 rfl hl_22
        clear hl_22
        obtain ⟨H23, hl_24⟩ := ops_next 23 24 rfl hl_23
        clear hl_23
        obtain ⟨H24, hl_25⟩ := ops_next 24 25 rfl hl_24
        clear hl_24
        obtain ⟨H25, hl_26⟩ := ops_next 25 26 rfl hl_25
        clear hl_25
        clear hl_26
        have x_0 : ext fr 0 = _ := congrArg (fun a => Act.eval a (.tmp 0)) HFR.out
        conv at x_0 => rhs; simp only [Act.eval, Array.getD_eq_getD_getElem?, List.getElem?_toArray, List.getElem?_cons_succ, List.getElem?_cons_zero, Option.getD_some]
        refine env_yes HSZ H0.out ?_ (fun w' hS => ?_) ?_
        rotate_left
        (go_simp
         rfl)
        refine env_yes HSZ H1.out ?_ (fun w' hS => ?_) ?_
        rotate_left
        (go_simp
         rfl)
        refine env_yes HSZ H2.out ?_ (fun w' hS => ?_) ?_
        rotate_left
        (go_simp
         rfl)
        refine env_yes HSZ H3.out ?_ (fun w' hS => ?_) ?_
        rotate_left
        (have h := (hS.cell (p := ⟨g, 3, none⟩) lgr).trans z3
         go_simp
         rfl)
        refine env_yes HSZ H4.out ?_ (fun w' hS => ?_) ?_
        rotate_left
        (go_simp
         rfl)
        refine env_yes HSZ H5.out ?_ (fun w' hS => ?_) ?_
        rotate_left
        (go_simp
         rfl)
        refine env_yes HSZ H6.out ?_ (fun w' hS => ?_) ?_
        rotate_left
        (go_simp
         rfl)
        refine env_yes HSZ H7.out ?_ (fun w' hS => ?_) ?_
        rotate_left
        (have h := (hS.cell (p := ⟨g, 1, none⟩) lgr).trans z1
         go_simp
         rfl)
        refine env_yes HSZ H8.out ?_ (fun w' hS => ?_) ?_
        rotate_left
        (go_simp
         rfl)
        refine env_yes HSZ H9.out ?_ (fun w' hS => ?_) ?_
        rotate_left
        (go_simp
         rfl)
        refine env_yes HSZ H10.out ?_ (fun w' hS => ?_) ?_
        rotate_left
        (go_simp
         rfl)
        refine env_on HSZ H11.out H10.out (by first | rfl | go_simp) ?_ (fun w' hS => ?_) ?_
        rotate_left
        (go_simp
         rfl)
        refine env_on HSZ H12.out H10.out (by first | rfl | go_simp) ?_ (fun w' hS => ?_) ?_
        rotate_left
        (go_simp
         rfl)
        refine env_on HSZ H13.out H10.out (by first | rfl | go_simp) ?_ (fun w' hS => ?_) ?_
        rotate_left
        (go_simp
         rfl)
        refine env_on HSZ H14.out H10.out (by first | rfl | go_simp) ?_ (fun w' hS => ?_) ?_
        rotate_left
        (have h := (hS.cell (p := ⟨g, 3, none⟩) lgr).trans z3
         go_simp
         rfl)
        refine env_on HSZ H15.out H10.out (by first | rfl | go_simp) ?_ (fun w' hS => ?_) ?_
        rotate_left
        (go_simp
         rfl)
        refine env_on HSZ H16.out H10.out (by first | rfl | go_simp) ?_ (fun w' hS => ?_) ?_
        rotate_left
        (go_simp
         rfl)
        refine env_on HSZ H17.out H10.out (by first | rfl | go_simp) ?_ (fun w' hS => ?_) ?_
        rotate_left
        (go_simp
         rfl)
        refine env_on HSZ H18.out H10.out (by first | rfl | go_simp) ?_ (fun w' hS => ?_) ?_
        rotate_left
        (have h := (hS.cell (p := ⟨g, 2, none⟩) lgr).trans z2
         go_simp
         rfl)
        refine env_on HSZ H19.out H10.out (by first | rfl | go_simp) ?_ (fun w' hS => ?_) ?_
        rotate_left
        (go_simp
         rfl)
        refine env_on HSZ H20.out H10.out (by first | rfl | go_simp) ?_ (fun w' hS => ?_) ?_
        rotate_left
        (go_simp
         rfl)
        refine env_on HSZ H21.out H10.out (by first | rfl | go_simp) ?_ (fun w' hS => ?_) ?_
        rotate_left
        (go_simp
         rfl)
        refine env_on HSZ H22.out H10.out (by first | rfl | go_simp) ?_ (fun w' hS => ?_) ?_
        rotate_left
        (have h := (hS.cell (p := ⟨g, 0, none⟩) lgr).trans z0
         go_simp
         rfl)
        refine env_on HSZ H23.out H10.out (by first | rfl | go_simp) ?_ (fun w' hS => ?_) ?_
        rotate_left
        (go_simp
         rfl)
        refine env_on HSZ H24.out H10.out (by first | rfl | go_simp) ?_ (fun w' hS => ?_) ?_
        rotate_left
        (go_simp
         rfl)
        refine env_yes HSZ H25.out ?_ (fun w' hS => ?_) ?_
        rotate_left
        (go_simp
         rfl)
        refine env_end ?_
        have hfr := HFR.out
        clear HFR HSZ H0 H1 H2 H3 H4 H5 H6 H7 H8 H9 H10 H11 H12 H13 H14 H15 H16 H17 H18 H19 H20 H21 H22 H23 H24 H25 x_0
        subst hfr
        simp only [putAll, Act.put, List.setIfInBounds_toArray, List.set_cons_succ, List.set_cons_zero]
        have z3d : wr.drew.cell? ⟨g, 3, none⟩ = some (.int .i64 pk) := z3
        go_wp2_with fail
        refine (iPack base g win pk s' _ (show LkAt wr.drew base g 61 win s' from ⟨_, _, _, HV'.out.below (Below.refl _ _).drew⟩) (by rw [hgn.out]; omega) (by rw [hgn.out]; omega) hok.out.texts hok.out.way).mono ?_
        rintro e w5 ⟨rfl, hk5, hb5⟩
        obtain ⟨vg5, vt5, vw5, hv5⟩ := hk5
        have hsame := packK_given pk s'
        have q3 := hv5.blk.cell 3
        have q3f := hv5.blk.free 3
        simp only [List.getElem?_cons_zero, List.getElem?_cons_succ] at q3
        rw [hsame.2.2.1, ← HPE.out] at q3
        have lg5 : g < w5.heap.size := hv5.blk.lt
        have HS5 : Aside (LkAt (w5.setCell ⟨g, 3, none⟩ (.int .i64 ((pk : Int) + 1))) base g 61 win (stepK s')) := ⟨by
          have h := hv5.setInts (packK pk s').acked (pk + 1) (hv5.blk.set 3 (.int .i64 ((pk : Int) + 1))) (fun b hb hg => heap_far hg)
          unfold stepK
          rw [← HPE.out]
          exact ⟨_, _, _, h⟩⟩
        have HB5 : Aside (Below base w (w5.setCell ⟨g, 3, none⟩ (.int .i64 ((pk : Int) + 1)))) := ⟨(hbz.out.drew.trans hb5).setCell hv5.hb _⟩
        have hm5 : Aside (natAt (w5.setCell ⟨g, 3, none⟩ (.int .i64 ((pk : Int) + 1))) g 3 = pk + 1) := ⟨natAt_of (n := pk + 1) (World.cell?_setCell_same _ _ _ q3)⟩
        clear hv5 hb5 hsame z0 z1 z2 z3 z3d hr9 hok hbz
        go_wp2_with fail
        go_roundw
        case rel => exact ⟨stepK s', HS5, HB5, HGO, HOK2, ⟨by rw [stepK_given]; exact hgn.out⟩⟩
        case measure => rw [hm5.out, hmz.out]; omega
      · have HST : Aside (s9 = s') := ⟨by rw [hr9.out]; exact fillK_stop (by rw [← HPE.out, ← HAE.out]; omega)⟩
        have c2n : (ak : Int) + win ≤ pk := by omega
        have c2m : ak + win ≤ pk := by omega
        go_wp2_with fail
        refine region_env [(0, true), (1, true), (2, true), (3, true), (4, true), (5, true), (6, true), (7, true), (8, true), (9, true), (10, true), (11, true), (12, true), (13, true), (14, true), (15, true), (16, true), (17, true), (18, true), (19, true), (20, true), (21, true), (22, true), (23, true), (24, true), (25, true)] (fun w' => Below wr.heap.size wr w') 173 rfl (by kernel_rfl) (by kernel_rfl) (fun _ _ d _ _ h => by cases d <;> exact h) ((Below.refl _ _).drew) (fun ops fr HFR HSZ hl => ?_)
        have hl_0 := ops_start hl
        clear hl
        obtain ⟨H0, hl_1⟩ := ops_next 0 1 rfl hl_0
        clear hl_0
        obtain ⟨H1, hl_2⟩ := ops_next 1 2 rfl hl_1
        clear hl_1
        obtain ⟨H2, hl_3⟩ := ops_next 2 3 rfl hl_2
        clear hl_2
        obtain ⟨H3, hl_4⟩ := ops_next 3 4 rfl hl_3
        clear hl_3
        obtain ⟨H4, hl_5⟩ := ops_next 4 5 rfl hl_4
        clear hl_4
        obtain ⟨H5, hl_6⟩ := ops_next 5 6 rfl hl_5
        clear hl_5
        obtain ⟨H6, hl_7⟩ := ops_next 6 7 rfl hl_6
        clear hl_6
        obtain ⟨H7, hl_8⟩ := ops_next 7 8 rfl hl_7
        clear hl_7
        obtain ⟨H8, hl_9⟩ := ops_next 8 9 rfl hl_8
        clear hl_8
        obtain ⟨H9, hl_10⟩ := ops_next 9 10 rfl hl_9
        clear hl_9
        obtain ⟨H10, hl_11⟩ := ops_next 10 11 rfl hl_10
        clear hl_10
        obtain ⟨H11, hl_12⟩ := ops_next 11 12 rfl hl_11
        clear hl_11
        obtain ⟨H12, hl_13⟩ := ops_next 12 13 rfl hl_12
        clear hl_12
        obtain ⟨H13, hl_14⟩ := ops_next 13 14 rfl hl_13
        clear hl_13
        obtain ⟨H14, hl_15⟩ := ops_next 14 15 rfl hl_14
        clear hl_14
        obtain ⟨H15, hl_16⟩ := ops_next 15 16 rfl hl_15
        clear hl_15
        obtain ⟨H16, hl_17⟩ := ops_next 16 17 rfl hl_16
        clear hl_16
        obtain ⟨H17, hl_18⟩ := ops_next 17 18 rfl hl_17
        clear hl_17
        obtain ⟨H18, hl_19⟩ := ops_next 18 19 rfl hl_18
        clear hl_18
        obtain ⟨H19, hl_20⟩ := ops_next 19 20 rfl hl_19
        clear hl_19
        obtain ⟨H20, hl_21⟩ := ops_next 20 21 rfl hl_20
        clear hl_20
        obtain ⟨H21, hl_22⟩ := ops_next 21 22 rfl hl_21
        clear hl_21
        obtain ⟨H22, hl_23⟩ := ops_next 22 23 rfl hl_22
        clear hl_22
        obtain ⟨H23, hl_24⟩ := ops_next 23 24 rfl hl_23
        clear hl_23
        obtain ⟨H24, hl_25⟩ := ops_next 24 25 rfl hl_24
        clear hl_24
        obtain ⟨H25, hl_26⟩ := ops_next 25 26 rfl hl_25
        clear hl_25
        clear hl_26
        have x_0 : ext fr 0 = _ := congrArg (fun a => Act.eval a (.tmp 0)) HFR.out
        conv at x_0 => rhs; simp only [Act.eval, Array.getD_eq_getD_getElem?, List.getElem?_toArray, List.getElem?_cons_succ, List.getElem?_cons_zero, Option.getD_some]
        refine env_yes HSZ H0.out ?_ (fun w' hS => ?_) ?_
        rotate_left
        (go_simp
         rfl)
        refine env_yes HSZ H1.out ?_ (fun w' hS => ?_) ?_
        rotate_left
        (go_simp
         rfl)
        refine env_yes HSZ H2.out ?_ (fun w' hS => ?_) ?_
        rotate_left
        (go_simp
         rfl)
        refine env_yes HSZ H3.out ?_ (fun w' hS => ?_) ?_
        rotate_left
        (have h := (hS.cell (p := ⟨g, 3, none⟩) lgr).trans z3
         go_simp
         rfl)
        refine env_yes HSZ H4.out ?_ (fun w' hS => ?_) ?_
        rotate_left
        (go_simp
         rfl)
        refine env_yes HSZ H5.out ?_ (fun w' hS => ?_) ?_
        rotate_left
        (go_simp
         rfl)
        refine env_yes HSZ H6.out ?_ (fun w' hS => ?_) ?_
        rotate_left
        (go_simp
         rfl)
        refine env_yes HSZ H7.out ?_ (fun w' hS => ?_) ?_
        rotate_left
        (have h := (hS.cell (p := ⟨g, 1, none⟩) lgr).trans z1
         go_simp
         rfl)
        refine env_yes HSZ H8.out ?_ (fun w' hS => ?_) ?_
        rotate_left
        (go_simp
         rfl)
        refine env_yes HSZ H9.out ?_ (fun w' hS => ?_) ?_
        rotate_left
        (go_simp
         rfl)
        refine env_yes HSZ H10.out ?_ (fun w' hS => ?_) ?_
        rotate_left
        (go_simp
         rfl)
        refine env_on HSZ H11.out H10.out (by first | rfl | go_simp) ?_ (fun w' hS => ?_) ?_
        rotate_left
        (go_simp
         rfl)
        refine env_on HSZ H12.out H10.out (by first | rfl | go_simp) ?_ (fun w' hS => ?_) ?_
        rotate_left
        (go_simp
         rfl)
        refine env_on HSZ H13.out H10.out (by first | rfl | go_simp) ?_ (fun w' hS => ?_) ?_
        rotate_left
        (go_simp
         rfl)
        refine env_on HSZ H14.out H10.out (by first | rfl | go_simp) ?_ (fun w' hS => ?_) ?_
        rotate_left
        (have h := (hS.cell (p := ⟨g, 3, none⟩) lgr).trans z3
         go_simp
         rfl)
        refine env_on HSZ H15.out H10.out (by first | rfl | go_simp) ?_ (fun w' hS => ?_) ?_
        rotate_left
        (go_simp
         rfl)
        refine env_on HSZ H16.out H10.out (by first | rfl | go_simp) ?_ (fun w' hS => ?_) ?_
        rotate_left
        (go_simp
         rfl)
        refine env_on HSZ H17.out H10.out (by first | rfl | go_simp) ?_ (fun w' hS => ?_) ?_
        rotate_left
        (go_simp
         rfl)
        refine env_on HSZ H18.out H10.out (by first | rfl | go_simp) ?_ (fun w' hS => ?_) ?_
        rotate_left
        (have h := (hS.cell (p := ⟨g, 2, none⟩) lgr).trans z2
         go_simp
         rfl)
        refine env_on HSZ H19.out H10.out (by first | rfl | go_simp) ?_ (fun w' hS => ?_) ?_
        rotate_left
        (go_simp
         rfl)
        refine env_on HSZ H20.out H10.out (by first | rfl | go_simp) ?_ (fun w' hS => ?_) ?_
        rotate_left
        (go_simp
         rfl)
        refine env_on HSZ H21.out H10.out (by first | rfl | go_simp) ?_ (fun w' hS => ?_) ?_
        rotate_left
        (go_simp
         rfl)
        refine env_on HSZ H22.out H10.out (by first | rfl | go_simp) ?_ (fun w' hS => ?_) ?_
        rotate_left
        (have h := (hS.cell (p := ⟨g, 0, none⟩) lgr).trans z0
         go_simp
         rfl)
        refine env_on HSZ H23.out H10.out (by first | rfl | go_simp) ?_ (fun w' hS => ?_) ?_
        rotate_left
        (go_simp
         rfl)
        refine env_on HSZ H24.out H10.out (by first | rfl | go_simp) ?_ (fun w' hS => ?_) ?_
        rotate_left
        (go_simp
         rfl)
        refine env_yes HSZ H25.out ?_ (fun w' hS => ?_) ?_
        rotate_left
        (go_simp
         rfl)
        refine env_end ?_
        have hfr := HFR.out
        clear HFR HSZ H0 H1 H2 H3 H4 H5 H6 H7 H8 H9 H10 H11 H12 H13 H14 H15 H16 H17 H18 H19 H20 H21 H22 H23 H24 H25 x_0
        subst hfr
        simp only [putAll, Act.put, List.setIfInBounds_toArray, List.set_cons_succ, List.set_cons_zero]
        go_wp2_with fail
        go_end0
        exact ⟨rfl, by rw [HST.out]; exact ⟨_, _, _, HV'.out.below (Below.refl _ _).drew⟩, hbz.out.drew⟩
    · have HST : Aside (s9 = s') := ⟨by rw [hr9.out]; exact fillK_stop (by rw [← HPE.out, hgn.out]; omega)⟩
      have c1n : (N9 : Int) ≤ pk := by omega
      have c1m : N9 ≤ pk := by omega
      go_wp2_with fail
      refine region_env [(0, true), (1, true), (2, true), (3, true), (4, true), (5, true), (6, true), (7, true), (8, true), (9, true), (10, true), (11, true), (12, true), (13, true), (14, true), (15, true), (16, true), (17, true), (18, true), (19, true), (20, true), (21, true), (22, true), (23, true), (24, true), (25, true)] (fun w' => Below wr.heap.size wr w') 173 rfl (by kernel_rfl) (by kernel_rfl) (fun _ _ d _ _ h => by cases d <;> exact h) ((Below.refl _ _).drew) (fun ops fr HFR HSZ hl => ?_)
      have hl_0 := ops_start hl
      clear hl
      obtain ⟨H0, hl_1⟩ := ops_next 0 1 rfl hl_0
      clear hl_0
      obtain ⟨H1, hl_2⟩ := ops_next 1 2 rfl hl_1
      clear hl_1
      obtain ⟨H2, hl_3⟩ := ops_next 2 3 rfl hl_2
      clear hl_2
      obtain ⟨H3, hl_4⟩ := ops_next 3 4 rfl hl_3
      clear hl_3
      obtain ⟨H4, hl_5⟩ := ops_next 4 5 rfl hl_4
      clear hl_4
      obtain ⟨H5, hl_6⟩ := ops_next 5 6 rfl hl_5
      clear hl_5
      obtain ⟨H6, hl_7⟩ := ops_next 6 7 rfl hl_6
      clear hl_6
      obtain ⟨H7, hl_8⟩ := ops_next 7 8 rfl hl_7
      clear hl_7
      obtain ⟨H8, hl_9⟩ := ops_next 8 9 rfl hl_8
      clear hl_8
      obtain ⟨H9, hl_10⟩ := ops_next 9 10 rfl hl_9
      clear hl_9
      obtain ⟨H10, hl_11⟩ := ops_next 10 11 rfl hl_10
      clear hl_10
      obtain ⟨H11, hl_12⟩ := ops_next 11 12 rfl hl_11
      clear hl_11
      obtain ⟨H12, hl_13⟩ := ops_next 12 13 rfl hl_12
      clear hl_12
      obtain ⟨H13, hl_14⟩ := ops_next 13 14 rfl hl_13
      clear hl_13
      obtain ⟨H14, hl_15⟩ := ops_next 14 15 rfl hl_14
      clear hl_14
      obtain ⟨H15, hl_16⟩ := ops_next 15 16 rfl hl_15
      clear hl_15
      obtain ⟨H16, hl_17⟩ := ops_next 16 17 rfl hl_16
      clear hl_16
      obtain ⟨H17, hl_18⟩ := ops_next 17 18 rfl hl_17
      clear hl_17
      obtain ⟨H18, hl_19⟩ := ops_next 18 19 rfl hl_18
      clear hl_18
      obtain ⟨H19, hl_20⟩ := ops_next 19 20 rfl hl_19
      clear hl_19
      obtain ⟨H20, hl_21⟩ := ops_next 20 21 rfl hl_20
      clear hl_20
      obtain ⟨H21, hl_22⟩ := ops_next 21 22 rfl hl_21
      clear hl_21
      obtain ⟨H22, hl_23⟩ := ops_next 22 23 rfl hl_22
      clear hl_22
      obtain ⟨H23, hl_24⟩ := ops_next 23 24 rfl hl_23
      clear hl_23
      obtain ⟨H24, hl_25⟩ := ops_next 24 25 rfl hl_24
      clear hl_24
      obtain ⟨H25, hl_26⟩ := ops_next 25 26 rfl hl_25
      clear hl_25
      clear hl_26
      have x_0 : ext fr 0 = _ := congrArg (fun a => Act.eval a (.tmp 0)) HFR.out
      conv at x_0 => rhs; simp only [Act.eval, Array.getD_eq_getD_getElem?, List.getElem?_toArray, List.getElem?_cons_succ, List.getElem?_cons_zero, Option.getD_some]
      refine env_yes HSZ H0.out ?_ (fun w' hS => ?_) ?_
      rotate_left
      (go_simp
       rfl)
      refine env_yes HSZ H1.out ?_ (fun w' hS => ?_) ?_
      rotate_left
      (go_simp
       rfl)
      refine env_yes HSZ H2.out ?_ (fun w' hS => ?_) ?_
      rotate_left
      (go_simp
       rfl)
      refine env_yes HSZ H3.out ?_ (fun w' hS => ?_) ?_
      rotate_left
      (have h := (hS.cell (p := ⟨g, 3, none⟩) lgr).trans z3
       go_simp
       rfl)
      refine env_yes HSZ H4.out ?_ (fun w' hS => ?_) ?_
      rotate_left
      (go_simp
       rfl)
      refine env_yes HSZ H5.out ?_ (fun w' hS => ?_) ?_
      rotate_left
      (go_simp
       rfl)
      refine env_yes HSZ H6.out ?_ (fun w' hS => ?_) ?_
      rotate_left
      (go_simp
       rfl)
      refine env_yes HSZ H7.out ?_ (fun w' hS => ?_) ?_
      rotate_left
      (have h := (hS.cell (p := ⟨g, 1, none⟩) lgr).trans z1
       go_simp
       rfl)
      refine env_yes HSZ H8.out ?_ (fun w' hS => ?_) ?_
      rotate_left
      (go_simp
       rfl)
      refine env_yes HSZ H9.out ?_ (fun w' hS => ?_) ?_
      rotate_left
      (go_simp
       rfl)
      refine env_yes HSZ H10.out ?_ (fun w' hS => ?_) ?_
      rotate_left
      (go_simp
       rfl)
      refine env_off HSZ H11.out H10.out (by first | rfl | go_simp) ?_
      refine env_off HSZ H12.out H10.out (by first | rfl | go_simp) ?_
      refine env_off HSZ H13.out H10.out (by first | rfl | go_simp) ?_
      refine env_off HSZ H14.out H10.out (by first | rfl | go_simp) ?_
      refine env_off HSZ H15.out H10.out (by first | rfl | go_simp) ?_
      refine env_off HSZ H16.out H10.out (by first | rfl | go_simp) ?_
      refine env_off HSZ H17.out H10.out (by first | rfl | go_simp) ?_
      refine env_off HSZ H18.out H10.out (by first | rfl | go_simp) ?_
      refine env_off HSZ H19.out H10.out (by first | rfl | go_simp) ?_
      refine env_off HSZ H20.out H10.out (by first | rfl | go_simp) ?_
      refine env_off HSZ H21.out H10.out (by first | rfl | go_simp) ?_
      refine env_off HSZ H22.out H10.out (by first | rfl | go_simp) ?_
      refine env_off HSZ H23.out H10.out (by first | rfl | go_simp) ?_
      refine env_off HSZ H24.out H10.out (by first | rfl | go_simp) ?_
      refine env_yes HSZ H25.out ?_ (fun w' hS => ?_) ?_
      rotate_left
      (go_simp
       rfl)
      refine env_end ?_
      have hfr := HFR.out
      clear HFR HSZ H0 H1 H2 H3 H4 H5 H6 H7 H8 H9 H10 H11 H12 H13 H14 H15 H16 H17 H18 H19 H20 H21 H22 H23 H24 H25 x_0
      subst hfr
      simp only [putAll, Act.put, List.setIfInBounds_toArray, List.set_cons_succ, List.set_cons_zero]
      go_wp2_with fail
      go_end0
      exact ⟨rfl, by rw [HST.out]; exact ⟨_, _, _, HV'.out.below (Below.refl _ _).drew⟩, hbz.out.drew⟩
set_option maxRecDepth 100000 in
set_option maxHeartbeats 16000000 in
theorem sAct1 (base g win KK : Nat) (s : Lk) (n : Int) (t : ByteArray) (w : World) (h : LkAt w base g 57 win s) (ok : LkOK KK s) (okA : LkOK KK (actK 1 n.toNat t s)) (hk : KK ≤ 1000000) (hwin : win ≤ 16)  :
    Calls Try.prog 23 #[.pointer (some ⟨g, 0, none⟩), .agg #[.int .i64 1, .int .i64 n, .string t]] w fun e w' => e = .returned (.tuple #[]) ∧ LkAt w' base g 57 win (turnK win (1, n, t) s) ∧ Below base w w' := by
  obtain ⟨vg, vt, vw, hv⟩ := h
  obtain ⟨A, cap, rfl, hcap, -⟩ := own_shape hv.og
  obtain ⟨B, cB, rfl, hcB, -⟩ := own_shape hv.ow
  have lg : g < w.heap.size := hv.blk.lt
  have HW := Aside.mk hv
  obtain ⟨s9, hs9⟩ : ∃ x, x = turnK win (1, n, t) s := ⟨_, rfl⟩
  obtain ⟨sA, hsA⟩ : ∃ x, x = actK 1 n.toNat t s := ⟨_, rfl⟩
  have HR : Aside (s9 = fillK win (sA.given.length - sA.packed) sA) := ⟨by rw [hs9, hsA]; rfl⟩
  have HSA := Aside.mk hsA
  rw [← hs9]
  rw [← hsA] at okA
  have OKA := Aside.mk okA
  have OKS := Aside.mk ok
  have hgl : s.given.length ≤ KK := ok.given
  have hwl : s.way.length ≤ 100 := ok.way
  have hpl : s.packed ≤ s.given.length := ok.packed
  have hal : s.acked ≤ s.packed := ok.acked
  clear hs9 hsA okA ok
  obtain ⟨ng, hng⟩ : ∃ x, x = s.given.length := ⟨_, rfl⟩
  obtain ⟨nw, hnw⟩ : ∃ x, x = s.way.length := ⟨_, rfl⟩
  obtain ⟨pk0, hpk0⟩ : ∃ x, x = s.packed := ⟨_, rfl⟩
  obtain ⟨ak0, hak0⟩ : ∃ x, x = s.acked := ⟨_, rfl⟩
  have HNG := Aside.mk hng
  have HNW := Aside.mk hnw
  have HPK0 := Aside.mk hpk0
  have HAK0 := Aside.mk hak0
  have y1 := hv.blk.cell 1
  have y2 := hv.blk.cell 2
  have y3 := hv.blk.cell 3
  have y5 := hv.blk.cell 5
  simp only [List.getElem?_cons_zero, List.getElem?_cons_succ] at y1 y2 y3 y5
  rw [← hng] at y1 hgl hcap hpl
  rw [← hnw] at y5 hwl hcB
  rw [← hpk0] at y3 hpl hal
  rw [← hak0] at y2 hal
  clear hv hng hnw hpk0 hak0
  go_enter Try.func23, Try.ntmps23
  go_wp2_with fail
  have bel : Below w.heap.size w (w.alloc (.cells #[.int .i64 1, .int .i64 n, .string t] 34)) := by go_grown
  have HV := Aside.mk (HW.out.below bel)
  have K1 := Aside.mk (Blk.new w 34 [.int .i64 1, .int .i64 n, .string t])
  have BB : Aside (Below base w (w.alloc (.cells #[.int .i64 1, .int .i64 n, .string t] 34))) := ⟨bel.mono HW.out.lt⟩
  obtain ⟨w1, hw1⟩ : ∃ x, x = w.alloc (.cells #[.int .i64 1, .int .i64 n, .string t] 34) := ⟨_, rfl⟩
  obtain ⟨gp, hgp⟩ : ∃ x, x = w.heap.size := ⟨_, rfl⟩
  have hgp1 : w1.heap.size = gp + 1 := by rw [hw1, hgp]; simp
  have HGP := Aside.mk hgp
  rw [← hw1] at HV K1 BB ⊢
  rw [← hgp] at K1 lg ⊢
  clear bel hw1 hgp y1 y2 y3 y5
  have y1 : w1.cell? ⟨g, 1, none⟩ = some (.slice A ng cap) := by have h := HV.out.blk.cell 1; rw [HNG.out]; exact h
  have y2 : w1.cell? ⟨g, 2, none⟩ = some (.int .i64 ak0) := by have h := HV.out.blk.cell 2; rw [HAK0.out]; exact h
  have y3 : w1.cell? ⟨g, 3, none⟩ = some (.int .i64 pk0) := by have h := HV.out.blk.cell 3; rw [HPK0.out]; exact h
  have y5 : w1.cell? ⟨g, 5, none⟩ = some (.slice B nw cB) := by have h := HV.out.blk.cell 5; rw [HNW.out]; exact h
  have a0 : w1.cell? ⟨gp, 0, none⟩ = some (.int .i64 1) := K1.out.cell 0
  have a1 : w1.cell? ⟨gp, 1, none⟩ = some (.int .i64 n) := K1.out.cell 1
  have a2 : w1.cell? ⟨gp, 2, none⟩ = some (.string t) := K1.out.cell 2
  have lp : gp < w1.heap.size := K1.out.lt
  have lg1 : g < w1.heap.size := HV.out.blk.lt
  refine region_env [(0, true), (1, true), (2, true), (3, true), (4, true), (5, true), (6, true), (7, true), (8, true)] (fun w' => Below w1.heap.size w1 w') 164 rfl (by kernel_rfl) (by kernel_rfl) (fun _ _ d _ _ h => by cases d <;> exact h) ((Below.refl _ _).drew) (fun ops fr HFR HSZ hl => ?_)
  have hl_0 := ops_start hl
  clear hl
  obtain ⟨H0, hl_1⟩ := ops_next 0 1 rfl hl_0
  clear hl_0
  obtain ⟨H1, hl_2⟩ := ops_next 1 2 rfl hl_1
  clear hl_1
  obtain ⟨H2, hl_3⟩ := ops_next 2 3 rfl hl_2
  clear hl_2
  obtain ⟨H3, hl_4⟩ := ops_next 3 4 rfl hl_3
  clear hl_3
  obtain ⟨H4, hl_5⟩ := ops_next 4 5 rfl hl_4
  clear hl_4
  obtain ⟨H5, hl_6⟩ := ops_next 5 6 rfl hl_5
  clear hl_5
  obtain ⟨H6, hl_7⟩ := ops_next 6 7 rfl hl_6
  clear hl_6
  obtain ⟨H7, hl_8⟩ := ops_next 7 8 rfl hl_7
  clear hl_7
  obtain ⟨H8, hl_9⟩ := ops_next 8 9 rfl hl_8
  clear hl_8
  clear hl_9
  have x_3 : ext fr 3 = _ := congrArg (fun a => Act.eval a (.tmp 3)) HFR.out
  conv at x_3 => rhs; simp only [Act.eval, Array.getD_eq_getD_getElem?, List.getElem?_toArray, List.getElem?_cons_succ, List.getElem?_cons_zero, Option.getD_some]
  have x_0 : ext fr 0 = _ := congrArg (fun a => Act.eval a (.tmp 0)) HFR.out
  conv at x_0 => rhs; simp only [Act.eval, Array.getD_eq_getD_getElem?, List.getElem?_toArray, List.getElem?_cons_succ, List.getElem?_cons_zero, Option.getD_some]
  refine env_yes HSZ H0.out ?_ (fun w' hS => ?_) ?_
  rotate_left
  (go_simp
   rfl)
  refine env_yes HSZ H1.out ?_ (fun w' hS => ?_) ?_
  rotate_left
  (have h := (hS.cell (p := ⟨gp, 1, none⟩) lp).trans a1
   go_simp
   rfl)
  refine env_yes HSZ H2.out ?_ (fun w' hS => ?_) ?_
  rotate_left
  (go_simp
   rfl)
  refine env_yes HSZ H3.out ?_ (fun w' hS => ?_) ?_
  rotate_left
  (go_simp
   rfl)
  refine env_yes HSZ H4.out ?_ (fun w' hS => ?_) ?_
  rotate_left
  (go_simp
   rfl)
  refine env_yes HSZ H5.out ?_ (fun w' hS => ?_) ?_
  rotate_left
  (have h := (hS.cell (p := ⟨g, 5, none⟩) lg1).trans y5
   go_simp
   rfl)
  refine env_yes HSZ H6.out ?_ (fun w' hS => ?_) ?_
  rotate_left
  (go_simp
   rfl)
  refine env_yes HSZ H7.out ?_ (fun w' hS => ?_) ?_
  rotate_left
  (go_simp
   rfl)
  refine env_yes HSZ H8.out ?_ (fun w' hS => ?_) ?_
  rotate_left
  (go_simp
   rfl)
  refine env_end ?_
  have hfr := HFR.out
  clear HFR HSZ H0 H1 H2 H3 H4 H5 H6 H7 H8 x_3 x_0
  subst hfr
  simp only [putAll, Act.put, List.setIfInBounds_toArray, List.set_cons_succ, List.set_cons_zero]
  obtain ⟨w0, hw0⟩ : ∃ x, x = w1 := ⟨_, rfl⟩
  have HV0 := Aside.mk (HV.out.below (Below.refl _ _).drew)
  have K10 := Aside.mk K1.out.drew
  have BB0 := Aside.mk BB.out.drew
  have hgp2 : w1.drew.heap.size = gp + 1 := hgp1
  clear y1 y2 y3 y5 a0 a1 a2 lp lg1 HV K1 BB hgp1 hw0
  obtain ⟨w2, hw2⟩ : ∃ x, x = w1.drew := ⟨_, rfl⟩
  rw [← hw2] at HV0 K10 BB0 hgp2 ⊢
  clear hw2
  obtain ⟨w1, hw1⟩ : ∃ x, x = w2 := ⟨_, rfl⟩
  rw [← hw1] at HV0 K10 BB0 hgp2 ⊢
  have HV := HV0
  have K1 := K10
  have BB := BB0
  have hgp1 := hgp2
  clear hw1 HV0 K10 BB0 hgp2
  have y1 : w1.cell? ⟨g, 1, none⟩ = some (.slice A ng cap) := by have h := HV.out.blk.cell 1; rw [HNG.out]; exact h
  have y2 : w1.cell? ⟨g, 2, none⟩ = some (.int .i64 ak0) := by have h := HV.out.blk.cell 2; rw [HAK0.out]; exact h
  have y3 : w1.cell? ⟨g, 3, none⟩ = some (.int .i64 pk0) := by have h := HV.out.blk.cell 3; rw [HPK0.out]; exact h
  have y5 : w1.cell? ⟨g, 5, none⟩ = some (.slice B nw cB) := by have h := HV.out.blk.cell 5; rw [HNW.out]; exact h
  have a0 : w1.cell? ⟨gp, 0, none⟩ = some (.int .i64 1) := K1.out.cell 0
  have a1 : w1.cell? ⟨gp, 1, none⟩ = some (.int .i64 n) := K1.out.cell 1
  have a2 : w1.cell? ⟨gp, 2, none⟩ = some (.string t) := K1.out.cell 2
  have lp : gp < w1.heap.size := K1.out.lt
  have lg1 : g < w1.heap.size := HV.out.blk.lt
  go_wp2_with fail
  have hgw : (Value.slice A ng cap).ownBlock ≠ some g := fun h => HV.out.gg g (by rw [← HNG.out]; exact h) rfl
  have hgp3 : (Value.slice A ng cap).ownBlock ≠ some gp := fun h => by have h2 := (own_lt HW.out.og (g := gp) (by rw [← HNG.out]; exact h)).2; have := HGP.out; omega
  have OWN : w1.ownsRow base 9 1 (.slice A ng cap) ng (cstr s.given) := by have := HV.out.og; rwa [← HNG.out] at this
  obtain ⟨j0, hj0, jz0, jz1, jz2⟩ := info_parts infoStr
  obtain ⟨w8, A8, cap8, hrun, hown, hkeep, hb8, hnew, hs8, hc8⟩ := own_app (P := Try.prog) (t := 27) (w1 := w1.drew) j0 _ Try.underlying27 hj0 jz0 jz1 jz2 rfl (by decide) OWN.drew [.string t] rfl (fun u hu => by simp at hu; subst hu; rfl) (by unfold maxLen; omega) (by omega) HV.out.lt
  have hg8 : (Value.slice A8 (ng + 1) cap8).ownBlock ≠ some g := fun h => by rcases hnew with e | ⟨bq, e, hq⟩; exact hgw (by rw [← e]; exact h); rw [e] at h; injection h with h; change w1.heap.size ≤ bq at hq; omega
  have hbk : Blk w8 g 57 [.int .i64 win, .slice A ng cap, .int .i64 s.acked, .int .i64 s.packed, vt, .slice B s.way.length cB] := by
    have h := HV.out.blk
    rw [← HNG.out] at h
    exact (hkeep g lg1 hgw).trans h
  have EA : sA = { s with given := s.given ++ [t] } := by rw [HSA.out]; rfl
  have HZ : Aside (LkAt (w8.setCell ⟨g, 1, none⟩ (.slice A8 (ng + 1) cap8)) base g 57 win sA) := ⟨by
    rw [EA]
    refine ⟨.slice A8 (ng + 1) cap8, vt, _, HV.out.setGiven (s.given ++ [t]) (hbk.set 1 _) ?_ ?_ ?_⟩
    · rw [cstr_snoc] at hown
      rw [List.length_append, ← HNG.out]
      exact ownsRow_of_block hown (fun q hq => heap_far (fun e => hg8 (by rw [hq, e])))
    · intro b hb hg hr
      rw [heap_far hg]
      exact hkeep b hb (by rw [HNG.out]; exact hr)
    · rw [← HNG.out]; exact hnew⟩
  have BZ : Aside (Below base w (w8.setCell ⟨g, 1, none⟩ (.slice A8 (ng + 1) cap8))) := ⟨(BB.out.drew.trans hb8).setCell HV.out.hb _⟩
  have HBK := Aside.mk hbk
  have HRUN := Aside.mk hrun
  have hGp : Aside (¬ (gp = g ∨ (Value.slice A ng cap).ownBlock = some gp)) := ⟨fun h => by rcases h with h | h; omega; exact hgp3 h⟩
  have HS1 : Aside (But (fun c => c = g ∨ (Value.slice A ng cap).ownBlock = some c) w1 w8) := ⟨⟨hb8.os, hb8.tape, hb8.output, hb8.size, fun k hk hn => hkeep k hk (fun e => hn (Or.inr e))⟩⟩
  clear hj0 jz0 jz1 jz2 OWN hrun hown hkeep hb8 hnew hg8 hbk EA hgw hgp3
  refine region_env2 [(0, true), (1, true), (2, true), (3, true), (4, true), (5, true), (6, true), (7, false), (8, false), (9, true), (10, true), (11, false)] (fun w' => Below w1.heap.size w1 w') (fun w' => But (fun c => c = g ∨ (Value.slice A ng cap).ownBlock = some c) w1 w') 8 164 rfl (by kernel_rfl) (by kernel_rfl) (fun _ _ d _ _ h => by cases d <;> exact h) (fun w' h => But.below h) ((Below.refl _ _).drew) (fun ops fr HFR HSZ HWT hl => ?_)
  have hl_0 := ops_start hl
  clear hl
  obtain ⟨H0, hl_1⟩ := ops_next 0 1 rfl hl_0
  clear hl_0
  obtain ⟨H1, hl_2⟩ := ops_next 1 2 rfl hl_1
  clear hl_1
  obtain ⟨H2, hl_3⟩ := ops_next 2 3 rfl hl_2
  clear hl_2
  obtain ⟨H3, hl_4⟩ := ops_next 3 4 rfl hl_3
  clear hl_3
  obtain ⟨H4, hl_5⟩ := ops_next 4 5 rfl hl_4
  clear hl_4
  obtain ⟨H5, hl_6⟩ := ops_next 5 6 rfl hl_5
  clear hl_5
  obtain ⟨H6, hl_7⟩ := ops_next 6 7 rfl hl_6
  clear hl_6
  obtain ⟨H7, hl_8⟩ := ops_next 7 8 rfl hl_7
  clear hl_7
  obtain ⟨H8, hl_9⟩ := ops_next 8 9 rfl hl_8
  clear hl_8
  obtain ⟨H9, hl_10⟩ := ops_next 9 10 rfl hl_9
  clear hl_9
  obtain ⟨H10, hl_11⟩ := ops_next 10 11 rfl hl_10
  clear hl_10
  obtain ⟨H11, hl_12⟩ := ops_next 11 12 rfl hl_11
  clear hl_11
  clear hl_12
  have x_0 : ext fr 0 = _ := congrArg (fun a => Act.eval a (.tmp 0)) HFR.out
  conv at x_0 => rhs; simp only [Act.eval, Array.getD_eq_getD_getElem?, List.getElem?_toArray, List.getElem?_cons_succ, List.getElem?_cons_zero, Option.getD_some]
  have x_3 : ext fr 3 = _ := congrArg (fun a => Act.eval a (.tmp 3)) HFR.out
  conv at x_3 => rhs; simp only [Act.eval, Array.getD_eq_getD_getElem?, List.getElem?_toArray, List.getElem?_cons_succ, List.getElem?_cons_zero, Option.getD_some]
  refine env2_yes HSZ (by decide) H0.out ?_ (fun w' hS => ?_) ?_
  rotate_left
  (go_simp
   rfl)
  refine env2_yes HSZ (by decide) H1.out ?_ (fun w' hS => ?_) ?_
  rotate_left
  (go_simp
   rfl)
  refine env2_yes HSZ (by decide) H2.out ?_ (fun w' hS => ?_) ?_
  rotate_left
  (go_simp
   rfl)
  refine env2_yes HSZ (by decide) H3.out ?_ (fun w' hS => ?_) ?_
  rotate_left
  (go_simp
   rfl)
  refine env2_early HSZ (by decide) HWT (by kernel_rfl) H4.out ?_ (fun w' hS => ?_) ?_
  rotate_left
  (have h := (hS.cell (p := ⟨g, 1, none⟩) lg1).trans y1
   go_simp
   rfl)
  refine env2_yes HSZ (by decide) H5.out ?_ (fun w' hS => ?_) ?_
  rotate_left
  (go_simp
   rfl)
  refine env2_yes HSZ (by decide) H6.out ?_ (fun w' hS => ?_) ?_
  rotate_left
  (have h := (But.cell (o := 2) hS lp hGp.out).trans a2
   go_simp
   rfl)
  refine env2_run HSZ H7.out ?_ ?_ ?_ ?_ ?_
  rotate_left 2
  (go_simp; constructor <;> rfl)
  exact ((Below.refl _ _).alloc (Nat.le_refl _) _).drew
  refine env2_run HSZ H8.out ?_ ?_ ?_ ?_ ?_
  rotate_left 2
  rotate_right 2
  exact (.slice A8 (ng + 1) cap8)
  exact w8
  exact exec_app (v := .slice A ng cap) (v2 := .slice (some ⟨w1.heap.size, 0, none⟩) 1 1) _ _ (by go_simp) (by go_simp) HRUN.out
  exact HS1.out
  refine env2_yes HSZ (by decide) H9.out ?_ (fun w' hS => ?_) ?_
  rotate_left
  (go_simp
   rfl)
  refine env2_yes HSZ (by decide) H10.out ?_ (fun w' hS => ?_) ?_
  rotate_left
  (go_simp
   rfl)
  refine env2_store HSZ H11.out ?_ ?_ ?_ ?_
  rotate_left 1
  have c8 : w8.cell? ⟨g, 1, none⟩ = some (.slice A ng cap) := HBK.out.cell 1
  have f8 := HBK.out.free 1
  (go_simp; rfl)
  exact (show But (fun c => c = g ∨ (Value.slice A ng cap).ownBlock = some c) w1 w8 from HS1.out).set (p := ⟨g, 1, none⟩) (Or.inl rfl) _
  refine env2_end ?_
  have hfr := HFR.out
  clear HFR HSZ HWT H0 H1 H2 H3 H4 H5 H6 H7 H8 H9 H10 H11 x_0 x_3
  subst hfr
  simp only [putAll, Act.put, List.setIfInBounds_toArray, List.set_cons_succ, List.set_cons_zero]
  clear y1 y2 y3 y5 a0 a1 a2 HBK HRUN HS1 hGp
  obtain ⟨N9, hN9⟩ : ∃ N, N = sA.given.length := ⟨_, rfl⟩
  have HN9 := Aside.mk hN9
  have hN9b : N9 ≤ 1000000 := by have := OKA.out.given; omega
  clear hN9
  go_wp2_with fail
  go_loopw [] (fun wr => ∃ s' : Lk, Aside (LkAt wr base g 57 win s') ∧ Aside (Below base w wr) ∧ Aside (s9 = fillK win (s'.given.length - s'.packed) s') ∧ Aside (LkOK KK s') ∧ Aside (s'.given.length = N9)) (fun wr => N9 - natAt wr g 3)
  case atStart => exact ⟨sA, HZ, BZ, HR, OKA, ⟨HN9.out.symm⟩⟩
  case round =>
    obtain ⟨s', hat, hbz, hr9, hok, hgn⟩ := hrel
    clear HZ BZ HR OKA
    obtain ⟨vg', vt', vw', hv'⟩ := hat.out
    obtain ⟨A', cap', rfl, hcap', -⟩ := own_shape hv'.og
    have HV' := Aside.mk hv'
    have z0 := hv'.blk.cell 0
    have z1 := hv'.blk.cell 1
    have z2 := hv'.blk.cell 2
    have z3 := hv'.blk.cell 3
    simp only [List.getElem?_cons_zero, List.getElem?_cons_succ] at z0 z1 z2 z3
    have lgr : g < wr.heap.size := hv'.blk.lt
    rw [hgn.out] at z1 hcap'
    have hpk : s'.packed ≤ N9 := by rw [← hgn.out]; exact hok.out.packed
    have hak : s'.acked ≤ s'.packed := hok.out.acked
    have hmz : Aside (natAt wr g 3 = s'.packed) := ⟨natAt_of z3⟩
    obtain ⟨pk, hpe⟩ : ∃ pk, pk = s'.packed := ⟨_, rfl⟩
    obtain ⟨ak, hae⟩ : ∃ ak, ak = s'.acked := ⟨_, rfl⟩
    have HPE := Aside.mk hpe
    have HAE := Aside.mk hae
    rw [← hpe] at z3 hpk hak hmz
    rw [← hae] at z2 hak
    have hwr : IntKind.i64.wrap ((ak : Int) + (win : Int)) = (ak : Int) + (win : Int) := by rw [IntKind.wrap_i64]; omega
    clear hv' hpe hae hat
    by_cases c1 : (pk : Int) < N9
    · by_cases c2 : (pk : Int) < (ak : Int) + win
      · have HGO : Aside (s9 = fillK win ((stepK s').given.length - (stepK s').packed) (stepK s')) := ⟨by rw [hr9.out]; exact fillK_go (by rw [hgn.out, ← HPE.out]; omega) (by rw [← HPE.out, ← HAE.out]; omega)⟩
        have HOK2 : Aside (LkOK KK (stepK s')) := ⟨hok.out.step (by rw [hgn.out, ← HPE.out]; omega)⟩
        go_wp2_with fail
        refine region_env [(0, true), (1, true), (2, true), (3, true), (4, true), (5, true), (6, true), (7, true), (8, true), (9, true), (10, true), (11, true), (12, true), (13, true), (14, true), (15, true), (16, true), (17, true), (18, true), (19, true), (20, true), (21, true), (22, true), (23, true), (24, true), (25, true)] (fun w' => Below wr.heap.size wr w') 164 rfl (by kernel_rfl) (by kernel_rfl) (fun _ _ d _ _ h => by cases d <;> exact h) ((Below.refl _ _).drew) (fun ops fr HFR HSZ hl => ?_)
        have hl_0 := ops_start hl
        clear hl
        obtain ⟨H0, hl_1⟩ := ops_next 0 1 rfl hl_0
        clear hl_0
        obtain ⟨H1, hl_2⟩ := ops_next 1 2 rfl hl_1
        clear hl_1
        obtain ⟨H2, hl_3⟩ := ops_next 2 3 rfl hl_2
        clear hl_2
        obtain ⟨H3, hl_4⟩ := ops_next 3 4 rfl hl_3
        clear hl_3
        obtain ⟨H4, hl_5⟩ := ops_next 4 5 rfl hl_4
        clear hl_4
        obtain ⟨H5, hl_6⟩ := ops_next 5 6 rfl hl_5
        clear hl_5
        obtain ⟨H6, hl_7⟩ := ops_next 6 7 rfl hl_6
        clear hl_6
        obtain ⟨H7, hl_8⟩ := ops_next 7 8 rfl hl_7
        clear hl_7
        obtain ⟨H8, hl_9⟩ := ops_next 8 9 rfl hl_8
        clear hl_8
        obtain ⟨H9, hl_10⟩ := ops_next 9 10 rfl hl_9
        clear hl_9
        obtain ⟨H10, hl_11⟩ := ops_next 10 11 rfl hl_10
        clear hl_10
        obtain ⟨H11, hl_12⟩ := ops_next 11 12 rfl hl_11
        clear hl_11
        obtain ⟨H12, hl_13⟩ := ops_next 12 13 rfl hl_12
        clear hl_12
        obtain ⟨H13, hl_14⟩ := ops_next 13 14 rfl hl_13
        clear hl_13
        obtain ⟨H14, hl_15⟩ := ops_next 14 15 rfl hl_14
        clear hl_14
        obtain ⟨H15, hl_16⟩ := ops_next 15 16 rfl hl_15
        clear hl_15
        obtain ⟨H16, hl_17⟩ := ops_next 16 17 rfl hl_16
        clear hl_16
        obtain ⟨H17, hl_18⟩ := ops_next 17 18 rfl hl_17
        clear hl_17
        obtain ⟨H18, hl_19⟩ := ops_next 18 19 rfl hl_18
        clear hl_18
        obtain ⟨H19, hl_20⟩ := ops_next 19 20 rfl hl_19
        clear hl_19
        obtain ⟨H20, hl_21⟩ := ops_next 20 21 rfl hl_20
        clear hl_20
        obtain ⟨H21, hl_22⟩ := ops_next 21 22 rfl hl_21
        clear hl_21
        obtain ⟨H22, hl_23⟩ := ops_next 22 23 rfl hl_22
        clear hl_22
        obtain ⟨H23, hl_24⟩ := ops_next 23 24 rfl hl_23
        clear hl_23
        obtain ⟨H24, hl_25⟩ := ops_next 24 25 rfl hl_24
        clear hl_24
        obtain ⟨H25, hl_26⟩ := ops_next 25 26 rfl hl_25
        clear hl_25
        clear hl_26
        have x_0 : ext fr 0 = _ := congrArg (fun a => Act.eval a (.tmp 0)) HFR.out
        conv at x_0 => rhs; simp only [Act.eval, Array.getD_eq_getD_getElem?, List.getElem?_toArray, List.getElem?_cons_succ, List.getElem?_cons_zero, Option.getD_some]
        refine env_yes HSZ H0.out ?_ (fun w' hS => ?_) ?_
        rotate_left
        (go_simp
         rfl)
        refine env_yes HSZ H1.out ?_ (fun w' hS => ?_) ?_
        rotate_left
        (go_simp
         rfl)
        refine env_yes HSZ H2.out ?_ (fun w' hS => ?_) ?_
        rotate_left
        (go_simp
         rfl)
        refine env_yes HSZ H3.out ?_ (fun w' hS => ?_) ?_
        rotate_left
        (have h := (hS.cell (p := ⟨g, 3, none⟩) lgr).trans z3
         go_simp
         rfl)
        refine env_yes HSZ H4.out ?_ (fun w' hS => ?_) ?_
        rotate_left
        (go_simp
         rfl)
        refine env_yes HSZ H5.out ?_ (fun w' hS => ?_) ?_
        rotate_left
        (go_simp
         rfl)
        refine env_yes HSZ H6.out ?_ (fun w' hS => ?_) ?_
        rotate_left
        (go_simp
         rfl)
        refine env_yes HSZ H7.out ?_ (fun w' hS => ?_) ?_
        rotate_left
        (have h := (hS.cell (p := ⟨g, 1, none⟩) lgr).trans z1
         go_simp
         rfl)
        refine env_yes HSZ H8.out ?_ (fun w' hS => ?_) ?_
        rotate_left
        (go_simp
         rfl)
        refine env_yes HSZ H9.out ?_ (fun w' hS => ?_) ?_
        rotate_left
        (go_simp
         rfl)
        refine env_yes HSZ H10.out ?_ (fun w' hS => ?_) ?_
        rotate_left
        (go_simp
         rfl)
        refine env_on HSZ H11.out H10.out (by first | rfl | go_simp) ?_ (fun w' hS => ?_) ?_
        rotate_left
        (go_simp
         rfl)
        refine env_on HSZ H12.out H10.out (by first | rfl | go_simp) ?_ (fun w' hS => ?_) ?_
        rotate_left
        (go_simp
         rfl)
        refine env_on HSZ H13.out H10.out (by first | rfl | go_simp) ?_ (fun w' hS => ?_) ?_
        rotate_left
        (go_simp
         rfl)
        refine env_on HSZ H14.out H10.out (by first | rfl | go_simp) ?_ (fun w' hS => ?_) ?_
        rotate_left
        (have h := (hS.cell (p := ⟨g, 3, none⟩) lgr).trans z3
         go_simp
         rfl)
        refine env_on HSZ H15.out H10.out (by first | rfl | go_simp) ?_ (fun w' hS => ?_) ?_
        rotate_left
        (go_simp
         rfl)
        refine env_on HSZ H16.out H10.out (by first | rfl | go_simp) ?_ (fun w' hS => ?_) ?_
        rotate_left
        (go_simp
         rfl)
        refine env_on HSZ H17.out H10.out (by first | rfl | go_simp) ?_ (fun w' hS => ?_) ?_
        rotate_left
        (go_simp
         rfl)
        refine env_on HSZ H18.out H10.out (by first | rfl | go_simp) ?_ (fun w' hS => ?_) ?_
        rotate_left
        (have h := (hS.cell (p := ⟨g, 2, none⟩) lgr).trans z2
         go_simp
         rfl)
        refine env_on HSZ H19.out H10.out (by first | rfl | go_simp) ?_ (fun w' hS => ?_) ?_
        rotate_left
        (go_simp
         rfl)
        refine env_on HSZ H20.out H10.out (by first | rfl | go_simp) ?_ (fun w' hS => ?_) ?_
        rotate_left
        (go_simp
         rfl)
        refine env_on HSZ H21.out H10.out (by first | rfl | go_simp) ?_ (fun w' hS => ?_) ?_
        rotate_left
        (go_simp
         rfl)
        refine env_on HSZ H22.out H10.out (by first | rfl | go_simp) ?_ (fun w' hS => ?_) ?_
        rotate_left
        (have h := (hS.cell (p := ⟨g, 0, none⟩) lgr).trans z0
         go_simp
         rfl)
        refine env_on HSZ H23.out H10.out (by first | rfl | go_simp) ?_ (fun w' hS => ?_) ?_
        rotate_left
        (go_simp
         rfl)
        refine env_on HSZ H24.out H10.out (by first | rfl | go_simp) ?_ (fun w' hS => ?_) ?_
        rotate_left
        (go_simp
         rfl)
        refine env_yes HSZ H25.out ?_ (fun w' hS => ?_) ?_
        rotate_left
        (go_simp
         rfl)
        refine env_end ?_
        have hfr := HFR.out
        clear HFR HSZ H0 H1 H2 H3 H4 H5 H6 H7 H8 H9 H10 H11 H12 H13 H14 H15 H16 H17 H18 H19 H20 H21 H22 H23 H24 H25 x_0
        subst hfr
        simp only [putAll, Act.put, List.setIfInBounds_toArray, List.set_cons_succ, List.set_cons_zero]
        have z3d : wr.drew.cell? ⟨g, 3, none⟩ = some (.int .i64 pk) := z3
        go_wp2_with fail
        refine (sPack base g win pk s' _ (show LkAt wr.drew base g 57 win s' from ⟨_, _, _, HV'.out.below (Below.refl _ _).drew⟩) (by rw [hgn.out]; omega) (by rw [hgn.out]; omega) hok.out.texts hok.out.way).mono ?_
        rintro e w5 ⟨rfl, hk5, hb5⟩
        obtain ⟨vg5, vt5, vw5, hv5⟩ := hk5
        have hsame := packK_given pk s'
        have q3 := hv5.blk.cell 3
        have q3f := hv5.blk.free 3
        simp only [List.getElem?_cons_zero, List.getElem?_cons_succ] at q3
        rw [hsame.2.2.1, ← HPE.out] at q3
        have lg5 : g < w5.heap.size := hv5.blk.lt
        have HS5 : Aside (LkAt (w5.setCell ⟨g, 3, none⟩ (.int .i64 ((pk : Int) + 1))) base g 57 win (stepK s')) := ⟨by
          have h := hv5.setInts (packK pk s').acked (pk + 1) (hv5.blk.set 3 (.int .i64 ((pk : Int) + 1))) (fun b hb hg => heap_far hg)
          unfold stepK
          rw [← HPE.out]
          exact ⟨_, _, _, h⟩⟩
        have HB5 : Aside (Below base w (w5.setCell ⟨g, 3, none⟩ (.int .i64 ((pk : Int) + 1)))) := ⟨(hbz.out.drew.trans hb5).setCell hv5.hb _⟩
        have hm5 : Aside (natAt (w5.setCell ⟨g, 3, none⟩ (.int .i64 ((pk : Int) + 1))) g 3 = pk + 1) := ⟨natAt_of (n := pk + 1) (World.cell?_setCell_same _ _ _ q3)⟩
        clear hv5 hb5 hsame z0 z1 z2 z3 z3d hr9 hok hbz
        go_wp2_with fail
        go_roundw
        case rel => exact ⟨stepK s', HS5, HB5, HGO, HOK2, ⟨by rw [stepK_given]; exact hgn.out⟩⟩
        case measure => rw [hm5.out, hmz.out]; omega
      · have HST : Aside (s9 = s') := ⟨by rw [hr9.out]; exact fillK_stop (by rw [← HPE.out, ← HAE.out]; omega)⟩
        have c2n : (ak : Int) + win ≤ pk := by omega
        have c2m : ak + win ≤ pk := by omega
        go_wp2_with fail
        refine region_env [(0, true), (1, true), (2, true), (3, true), (4, true), (5, true), (6, true), (7, true), (8, true), (9, true), (10, true), (11, true), (12, true), (13, true), (14, true), (15, true), (16, true), (17, true), (18, true), (19, true), (20, true), (21, true), (22, true), (23, true), (24, true), (25, true)] (fun w' => Below wr.heap.size wr w') 164 rfl (by kernel_rfl) (by kernel_rfl) (fun _ _ d _ _ h => by cases d <;> exact h) ((Below.refl _ _).drew) (fun ops fr HFR HSZ hl => ?_)
        have hl_0 := ops_start hl
        clear hl
        obtain ⟨H0, hl_1⟩ := ops_next 0 1 rfl hl_0
        clear hl_0
        obtain ⟨H1, hl_2⟩ := ops_next 1 2 rfl hl_1
        clear hl_1
        obtain ⟨H2, hl_3⟩ := ops_next 2 3 rfl hl_2
        clear hl_2
        obtain ⟨H3, hl_4⟩ := ops_next 3 4 rfl hl_3
        clear hl_3
        obtain ⟨H4, hl_5⟩ := ops_next 4 5 rfl hl_4
        clear hl_4
        obtain ⟨H5, hl_6⟩ := ops_next 5 6 rfl hl_5
        clear hl_5
        obtain ⟨H6, hl_7⟩ := ops_next 6 7 rfl hl_6
        clear hl_6
        obtain ⟨H7, hl_8⟩ := ops_next 7 8 rfl hl_7
        clear hl_7
        obtain ⟨H8, hl_9⟩ := ops_next 8 9 rfl hl_8
        clear hl_8
        obtain ⟨H9, hl_10⟩ := ops_next 9 10 rfl hl_9
        clear hl_9
        obtain ⟨H10, hl_11⟩ := ops_next 10 11 rfl hl_10
        clear hl_10
        obtain ⟨H11, hl_12⟩ := ops_next 11 12 rfl hl_11
        clear hl_11
        obtain ⟨H12, hl_13⟩ := ops_next 12 13 rfl hl_12
        clear hl_12
        obtain ⟨H13, hl_14⟩ := ops_next 13 14 rfl hl_13
        clear hl_13
        obtain ⟨H14, hl_15⟩ := ops_next 14 15 rfl hl_14
        clear hl_14
        obtain ⟨H15, hl_16⟩ := ops_next 15 16 rfl hl_15
        clear hl_15
        obtain ⟨H16, hl_17⟩ := ops_next 16 17 rfl hl_16
        clear hl_16
        obtain ⟨H17, hl_18⟩ := ops_next 17 18 rfl hl_17
        clear hl_17
        obtain ⟨H18, hl_19⟩ := ops_next 18 19 rfl hl_18
        clear hl_18
        obtain ⟨H19, hl_20⟩ := ops_next 19 20 rfl hl_19
        clear hl_19
        obtain ⟨H20, hl_21⟩ := ops_next 20 21 rfl hl_20
        clear hl_20
        obtain ⟨H21, hl_22⟩ := ops_next 21 22 rfl hl_21
        clear hl_21
        obtain ⟨H22, hl_23⟩ := ops_next 22 23 rfl hl_22
        clear hl_22
        obtain ⟨H23, hl_24⟩ := ops_next 23 24 rfl hl_23
        clear hl_23
        obtain ⟨H24, hl_25⟩ := ops_next 24 25 rfl hl_24
        clear hl_24
        obtain ⟨H25, hl_26⟩ := ops_next 25 26 rfl hl_25
        clear hl_25
        clear hl_26
        have x_0 : ext fr 0 = _ := congrArg (fun a => Act.eval a (.tmp 0)) HFR.out
        conv at x_0 => rhs; simp only [Act.eval, Array.getD_eq_getD_getElem?, List.getElem?_toArray, List.getElem?_cons_succ, List.getElem?_cons_zero, Option.getD_some]
        refine env_yes HSZ H0.out ?_ (fun w' hS => ?_) ?_
        rotate_left
        (go_simp
         rfl)
        refine env_yes HSZ H1.out ?_ (fun w' hS => ?_) ?_
        rotate_left
        (go_simp
         rfl)
        refine env_yes HSZ H2.out ?_ (fun w' hS => ?_) ?_
        rotate_left
        (go_simp
         rfl)
        refine env_yes HSZ H3.out ?_ (fun w' hS => ?_) ?_
        rotate_left
        (have h := (hS.cell (p := ⟨g, 3, none⟩) lgr).trans z3
         go_simp
         rfl)
        refine env_yes HSZ H4.out ?_ (fun w' hS => ?_) ?_
        rotate_left
        (go_simp
         rfl)
        refine env_yes HSZ H5.out ?_ (fun w' hS => ?_) ?_
        rotate_left
        (go_simp
         rfl)
        refine env_yes HSZ H6.out ?_ (fun w' hS => ?_) ?_
        rotate_left
        (go_simp
         rfl)
        refine env_yes HSZ H7.out ?_ (fun w' hS => ?_) ?_
        rotate_left
        (have h := (hS.cell (p := ⟨g, 1, none⟩) lgr).trans z1
         go_simp
         rfl)
        refine env_yes HSZ H8.out ?_ (fun w' hS => ?_) ?_
        rotate_left
        (go_simp
         rfl)
        refine env_yes HSZ H9.out ?_ (fun w' hS => ?_) ?_
        rotate_left
        (go_simp
         rfl)
        refine env_yes HSZ H10.out ?_ (fun w' hS => ?_) ?_
        rotate_left
        (go_simp
         rfl)
        refine env_on HSZ H11.out H10.out (by first | rfl | go_simp) ?_ (fun w' hS => ?_) ?_
        rotate_left
        (go_simp
         rfl)
        refine env_on HSZ H12.out H10.out (by first | rfl | go_simp) ?_ (fun w' hS => ?_) ?_
        rotate_left
        (go_simp
         rfl)
        refine env_on HSZ H13.out H10.out (by first | rfl | go_simp) ?_ (fun w' hS => ?_) ?_
        rotate_left
        (go_simp
         rfl)
        refine env_on HSZ H14.out H10.out (by first | rfl | go_simp) ?_ (fun w' hS => ?_) ?_
        rotate_left
        (have h := (hS.cell (p := ⟨g, 3, none⟩) lgr).trans z3
         go_simp
         rfl)
        refine env_on HSZ H15.out H10.out (by first | rfl | go_simp) ?_ (fun w' hS => ?_) ?_
        rotate_left
        (go_simp
         rfl)
        refine env_on HSZ H16.out H10.out (by first | rfl | go_simp) ?_ (fun w' hS => ?_) ?_
        rotate_left
        (go_simp
         rfl)
        refine env_on HSZ H17.out H10.out (by first | rfl | go_simp) ?_ (fun w' hS => ?_) ?_
        rotate_left
        (go_simp
         rfl)
        refine env_on HSZ H18.out H10.out (by first | rfl | go_simp) ?_ (fun w' hS => ?_) ?_
        rotate_left
        (have h := (hS.cell (p := ⟨g, 2, none⟩) lgr).trans z2
         go_simp
         rfl)
        refine env_on HSZ H19.out H10.out (by first | rfl | go_simp) ?_ (fun w' hS => ?_) ?_
        rotate_left
        (go_simp
         rfl)
        refine env_on HSZ H20.out H10.out (by first | rfl | go_simp) ?_ (fun w' hS => ?_) ?_
        rotate_left
        (go_simp
         rfl)
        refine env_on HSZ H21.out H10.out (by first | rfl | go_simp) ?_ (fun w' hS => ?_) ?_
        rotate_left
        (go_simp
         rfl)
        refine env_on HSZ H22.out H10.out (by first | rfl | go_simp) ?_ (fun w' hS => ?_) ?_
        rotate_left
        (have h := (hS.cell (p := ⟨g, 0, none⟩) lgr).trans z0
         go_simp
         rfl)
        refine env_on HSZ H23.out H10.out (by first | rfl | go_simp) ?_ (fun w' hS => ?_) ?_
        rotate_left
        (go_simp
         rfl)
        refine env_on HSZ H24.out H10.out (by first | rfl | go_simp) ?_ (fun w' hS => ?_) ?_
        rotate_left
        (go_simp
         rfl)
        refine env_yes HSZ H25.out ?_ (fun w' hS => ?_) ?_
        rotate_left
        (go_simp
         rfl)
        refine env_end ?_
        have hfr := HFR.out
        clear HFR HSZ H0 H1 H2 H3 H4 H5 H6 H7 H8 H9 H10 H11 H12 H13 H14 H15 H16 H17 H18 H19 H20 H21 H22 H23 H24 H25 x_0
        subst hfr
        simp only [putAll, Act.put, List.setIfInBounds_toArray, List.set_cons_succ, List.set_cons_zero]
        go_wp2_with fail
        go_end0
        exact ⟨rfl, by rw [HST.out]; exact ⟨_, _, _, HV'.out.below (Below.refl _ _).drew⟩, hbz.out.drew⟩
    · have HST : Aside (s9 = s') := ⟨by rw [hr9.out]; exact fillK_stop (by rw [← HPE.out, hgn.out]; omega)⟩
      have c1n : (N9 : Int) ≤ pk := by omega
      have c1m : N9 ≤ pk := by omega
      go_wp2_with fail
      refine region_env [(0, true), (1, true), (2, true), (3, true), (4, true), (5, true), (6, true), (7, true), (8, true), (9, true), (10, true), (11, true), (12, true), (13, true), (14, true), (15, true), (16, true), (17, true), (18, true), (19, true), (20, true), (21, true), (22, true), (23, true), (24, true), (25, true)] (fun w' => Below wr.heap.size wr w') 164 rfl (by kernel_rfl) (by kernel_rfl) (fun _ _ d _ _ h => by cases d <;> exact h) ((Below.refl _ _).drew) (fun ops fr HFR HSZ hl => ?_)
      have hl_0 := ops_start hl
      clear hl
      obtain ⟨H0, hl_1⟩ := ops_next 0 1 rfl hl_0
      clear hl_0
      obtain ⟨H1, hl_2⟩ := ops_next 1 2 rfl hl_1
      clear hl_1
      obtain ⟨H2, hl_3⟩ := ops_next 2 3 rfl hl_2
      clear hl_2
      obtain ⟨H3, hl_4⟩ := ops_next 3 4 rfl hl_3
      clear hl_3
      obtain ⟨H4, hl_5⟩ := ops_next 4 5 rfl hl_4
      clear hl_4
      obtain ⟨H5, hl_6⟩ := ops_next 5 6 rfl hl_5
      clear hl_5
      obtain ⟨H6, hl_7⟩ := ops_next 6 7 rfl hl_6
      clear hl_6
      obtain ⟨H7, hl_8⟩ := ops_next 7 8 rfl hl_7
      clear hl_7
      obtain ⟨H8, hl_9⟩ := ops_next 8 9 rfl hl_8
      clear hl_8
      obtain ⟨H9, hl_10⟩ := ops_next 9 10 rfl hl_9
      clear hl_9
      obtain ⟨H10, hl_11⟩ := ops_next 10 11 rfl hl_10
      clear hl_10
      obtain ⟨H11, hl_12⟩ := ops_next 11 12 rfl hl_11
      clear hl_11
      obtain ⟨H12, hl_13⟩ := ops_next 12 13 rfl hl_12
      clear hl_12
      obtain ⟨H13, hl_14⟩ := ops_next 13 14 rfl hl_13
      clear hl_13
      obtain ⟨H14, hl_15⟩ := ops_next 14 15 rfl hl_14
      clear hl_14
      obtain ⟨H15, hl_16⟩ := ops_next 15 16 rfl hl_15
      clear hl_15
      obtain ⟨H16, hl_17⟩ := ops_next 16 17 rfl hl_16
      clear hl_16
      obtain ⟨H17, hl_18⟩ := ops_next 17 18 rfl hl_17
      clear hl_17
      obtain ⟨H18, hl_19⟩ := ops_next 18 19 rfl hl_18
      clear hl_18
      obtain ⟨H19, hl_20⟩ := ops_next 19 20 rfl hl_19
      clear hl_19
      obtain ⟨H20, hl_21⟩ := ops_next 20 21 rfl hl_20
      clear hl_20
      obtain ⟨H21, hl_22⟩ := ops_next 21 22 rfl hl_21
      clear hl_21
      obtain ⟨H22, hl_23⟩ := ops_next 22 23 rfl hl_22
      clear hl_22
      obtain ⟨H23, hl_24⟩ := ops_next 23 24 rfl hl_23
      clear hl_23
      obtain ⟨H24, hl_25⟩ := ops_next 24 25 rfl hl_24
      clear hl_24
      obtain ⟨H25, hl_26⟩ := ops_next 25 26 rfl hl_25
      clear hl_25
      clear hl_26
      have x_0 : ext fr 0 = _ := congrArg (fun a => Act.eval a (.tmp 0)) HFR.out
      conv at x_0 => rhs; simp only [Act.eval, Array.getD_eq_getD_getElem?, List.getElem?_toArray, List.getElem?_cons_succ, List.getElem?_cons_zero, Option.getD_some]
      refine env_yes HSZ H0.out ?_ (fun w' hS => ?_) ?_
      rotate_left
      (go_simp
       rfl)
      refine env_yes HSZ H1.out ?_ (fun w' hS => ?_) ?_
      rotate_left
      (go_simp
       rfl)
      refine env_yes HSZ H2.out ?_ (fun w' hS => ?_) ?_
      rotate_left
      (go_simp
       rfl)
      refine env_yes HSZ H3.out ?_ (fun w' hS => ?_) ?_
      rotate_left
      (have h := (hS.cell (p := ⟨g, 3, none⟩) lgr).trans z3
       go_simp
       rfl)
      refine env_yes HSZ H4.out ?_ (fun w' hS => ?_) ?_
      rotate_left
      (go_simp
       rfl)
      refine env_yes HSZ H5.out ?_ (fun w' hS => ?_) ?_
      rotate_left
      (go_simp
       rfl)
      refine env_yes HSZ H6.out ?_ (fun w' hS => ?_) ?_
      rotate_left
      (go_simp
       rfl)
      refine env_yes HSZ H7.out ?_ (fun w' hS => ?_) ?_
      rotate_left
      (have h := (hS.cell (p := ⟨g, 1, none⟩) lgr).trans z1
       go_simp
       rfl)
      refine env_yes HSZ H8.out ?_ (fun w' hS => ?_) ?_
      rotate_left
      (go_simp
       rfl)
      refine env_yes HSZ H9.out ?_ (fun w' hS => ?_) ?_
      rotate_left
      (go_simp
       rfl)
      refine env_yes HSZ H10.out ?_ (fun w' hS => ?_) ?_
      rotate_left
      (go_simp
       rfl)
      refine env_off HSZ H11.out H10.out (by first | rfl | go_simp) ?_
      refine env_off HSZ H12.out H10.out (by first | rfl | go_simp) ?_
      refine env_off HSZ H13.out H10.out (by first | rfl | go_simp) ?_
      refine env_off HSZ H14.out H10.out (by first | rfl | go_simp) ?_
      refine env_off HSZ H15.out H10.out (by first | rfl | go_simp) ?_
      refine env_off HSZ H16.out H10.out (by first | rfl | go_simp) ?_
      refine env_off HSZ H17.out H10.out (by first | rfl | go_simp) ?_
      refine env_off HSZ H18.out H10.out (by first | rfl | go_simp) ?_
      refine env_off HSZ H19.out H10.out (by first | rfl | go_simp) ?_
      refine env_off HSZ H20.out H10.out (by first | rfl | go_simp) ?_
      refine env_off HSZ H21.out H10.out (by first | rfl | go_simp) ?_
      refine env_off HSZ H22.out H10.out (by first | rfl | go_simp) ?_
      refine env_off HSZ H23.out H10.out (by first | rfl | go_simp) ?_
      refine env_off HSZ H24.out H10.out (by first | rfl | go_simp) ?_
      refine env_yes HSZ H25.out ?_ (fun w' hS => ?_) ?_
      rotate_left
      (go_simp
       rfl)
      refine env_end ?_
      have hfr := HFR.out
      clear HFR HSZ H0 H1 H2 H3 H4 H5 H6 H7 H8 H9 H10 H11 H12 H13 H14 H15 H16 H17 H18 H19 H20 H21 H22 H23 H24 H25 x_0
      subst hfr
      simp only [putAll, Act.put, List.setIfInBounds_toArray, List.set_cons_succ, List.set_cons_zero]
      go_wp2_with fail
      go_end0
      exact ⟨rfl, by rw [HST.out]; exact ⟨_, _, _, HV'.out.below (Below.refl _ _).drew⟩, hbz.out.drew⟩
end Go.Proofs.Ytlopbheahedofaa.Fn
