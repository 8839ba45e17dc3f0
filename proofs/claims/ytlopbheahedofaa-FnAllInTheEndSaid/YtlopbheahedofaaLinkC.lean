/- Walks of an act that takes a packet off and hears it, both sides. Conditions: those of each theorem. -/
import Derived.Test.YtlopbheahedofaaLinkA
set_option linter.unusedVariables false
namespace Go.Proofs.Ytlopbheahedofaa.Fn
open Go Go.RowKit Go.Proofs.Ytlopbheahedofaa.Lib Go.Proofs.Ytlopbheahedofaa.Plan
attribute [local go_sem] look_tmp look_const look_func look_global lookT_nil lookT_hit lookT_miss

set_option maxRecDepth 100000 in
set_option maxHeartbeats 16000000 in
theorem iAct3 (base g win KK : Nat) (s : Lk) (n : Int) (t : ByteArray) (w : World) (h : LkAt w base g 61 win s) (ok : LkOK KK s) (okA : LkOK KK (actK 3 n.toNat t s)) (hk : KK ≤ 1000000) (hwin : win ≤ 16) (hn0 : 0 ≤ n) (hn1 : n ≤ 1000000000) :
    Calls Try.prog 25 #[.pointer (some ⟨g, 0, none⟩), .agg #[.int .i64 3, .int .i64 n, .string t]] w fun e w' => e = .returned (.tuple #[]) ∧ LkAt w' base g 61 win (turnK win (3, n, t) s) ∧ Below base w w' := by
  obtain ⟨m, rfl⟩ := Int.eq_ofNat_of_zero_le hn0
  have hm9 : m ≤ 1000000000 := by omega
  obtain ⟨vg, vt, vw, hv⟩ := h
  obtain ⟨A, cap, rfl, hcap, -⟩ := own_shape hv.og
  obtain ⟨B, cB, rfl, hcB, -⟩ := own_shape hv.ow
  have lg : g < w.heap.size := hv.blk.lt
  have HW := Aside.mk hv
  obtain ⟨s9, hs9⟩ : ∃ x, x = turnK win (3, (m : Int), t) s := ⟨_, rfl⟩
  obtain ⟨sA, hsA⟩ : ∃ x, x = actK 3 (m : Int).toNat t s := ⟨_, rfl⟩
  have HR : Aside (s9 = fillK win (sA.given.length - sA.packed) sA) := ⟨by rw [hs9, hsA]; rfl⟩
  have HSA := Aside.mk hsA
  rw [← hs9]
  rw [← hsA] at okA
  have OKA := Aside.mk okA
  have OKS := Aside.mk ok
  have hgl : s.given.length ≤ KK := ok.given
  have hwl : s.way.length ≤ 100 := ok.way
  have hpl : s.packed ≤ s.given.length := ok.packed
  have hal : s.acked ≤ s.packed := ok.acked
  clear hs9 hsA okA ok
  obtain ⟨ng, hng⟩ : ∃ x, x = s.given.length := ⟨_, rfl⟩
  obtain ⟨nw, hnw⟩ : ∃ x, x = s.way.length := ⟨_, rfl⟩
  obtain ⟨pk0, hpk0⟩ : ∃ x, x = s.packed := ⟨_, rfl⟩
  obtain ⟨ak0, hak0⟩ : ∃ x, x = s.acked := ⟨_, rfl⟩
  have HNG := Aside.mk hng
  have HNW := Aside.mk hnw
  have HPK0 := Aside.mk hpk0
  have HAK0 := Aside.mk hak0
  have y1 := hv.blk.cell 1
  have y2 := hv.blk.cell 2
  have y3 := hv.blk.cell 3
  have y5 := hv.blk.cell 5
  simp only [List.getElem?_cons_zero, List.getElem?_cons_succ] at y1 y2 y3 y5
  rw [← hng] at y1 hgl hcap hpl
  rw [← hnw] at y5 hwl hcB
  rw [← hpk0] at y3 hpl hal
  rw [← hak0] at y2 hal
  clear hv hng hnw hpk0 hak0
  by_cases hh : m < nw
  · have hmn : (m : Int) < nw := by omega
    have hml : m < s.way.length := by rw [← HNW.out]; exact hh
    obtain ⟨b, rfl, hbb, hbl, -, -⟩ := own_addr HW.out.ow (by omega)
    obtain ⟨p1, p2, hp⟩ : ∃ p1 p2, wayAt m s = (p1, p2) := ⟨_, _, rfl⟩
    have HP := Aside.mk hp
    have HEL : Aside (∀ w', LkV w' base g 61 win s (.slice A s.given.length cap) vt (.slice (some ⟨b, 0, none⟩) s.way.length cB) → w'.cell? ⟨b, m * 2, none⟩ = some (.bool p1) ∧ w'.cell? ⟨b, m * 2 + 1, none⟩ = some (.string p2)) := ⟨fun w' hv' => by
      have hp' : s.way[m] = (p1, p2) := by rw [← wayAt_eq hml]; exact hp
      have hc := hv'.ow.cells (g := b) rfl
      have c0 := hc (m * 2) (.bool p1) (by rw [show m * 2 = m * 2 + 0 by omega, cpk_at s.way m 0 hml (by omega), hp']; rfl)
      have c1 := hc (m * 2 + 1) (.string p2) (by rw [cpk_at s.way m 1 hml (by omega), hp']; rfl)
      rw [add_plain] at c0 c1
      exact ⟨c0, c1⟩⟩
    have HML := Aside.mk hml
    clear hp hml
    obtain ⟨e0, e1⟩ := HEL.out w HW.out
    go_enter Try.func25, Try.ntmps25
    go_wp2_with fail
    have bel : Below w.heap.size w (w.alloc (.cells #[.int .i64 3, .int .i64 (m : Int), .string t] 34)) := by go_grown
    have HV := Aside.mk (HW.out.below bel)
    have K1 := Aside.mk (Blk.new w 34 [.int .i64 3, .int .i64 (m : Int), .string t])
    have BB : Aside (Below base w (w.alloc (.cells #[.int .i64 3, .int .i64 (m : Int), .string t] 34))) := ⟨bel.mono HW.out.lt⟩
    obtain ⟨w1, hw1⟩ : ∃ x, x = w.alloc (.cells #[.int .i64 3, .int .i64 (m : Int), .string t] 34) := ⟨_, rfl⟩
    obtain ⟨gp, hgp⟩ : ∃ x, x = w.heap.size := ⟨_, rfl⟩
    have hgp1 : w1.heap.size = gp + 1 := by rw [hw1, hgp]; simp
    have HGP := Aside.mk hgp
    rw [← hw1] at HV K1 BB ⊢
    rw [← hgp] at K1 lg ⊢
    clear bel hw1 hgp y1 y2 y3 y5
    have y1 : w1.cell? ⟨g, 1, none⟩ = some (.slice A ng cap) := by have h := HV.out.blk.cell 1; rw [HNG.out]; exact h
    have y2 : w1.cell? ⟨g, 2, none⟩ = some (.int .i64 ak0) := by have h := HV.out.blk.cell 2; rw [HAK0.out]; exact h
    have y3 : w1.cell? ⟨g, 3, none⟩ = some (.int .i64 pk0) := by have h := HV.out.blk.cell 3; rw [HPK0.out]; exact h
    have y5 : w1.cell? ⟨g, 5, none⟩ = some (.slice (some ⟨b, 0, none⟩) nw cB) := by have h := HV.out.blk.cell 5; rw [HNW.out]; exact h
    have a0 : w1.cell? ⟨gp, 0, none⟩ = some (.int .i64 3) := K1.out.cell 0
    have a1 : w1.cell? ⟨gp, 1, none⟩ = some (.int .i64 (m : Int)) := K1.out.cell 1
    have a2 : w1.cell? ⟨gp, 2, none⟩ = some (.string t) := K1.out.cell 2
    have lp : gp < w1.heap.size := K1.out.lt
    have lg1 : g < w1.heap.size := HV.out.blk.lt
    clear e0 e1
    obtain ⟨w2, hw2⟩ : ∃ x, x = w1.alloc (.cells #[.bool p1, .string p2] 63) := ⟨_, rfl⟩
    rw [← hw2]
    have hb12 : Below w1.heap.size w1 w2 := by rw [hw2]; exact (Below.refl _ _).alloc (Nat.le_refl _) _
    have hs2 : w2.heap.size = gp + 2 := by rw [hw2]; simp; omega
    have K2 : Aside (Blk w2 (gp + 1) 63 [.bool p1, .string p2]) := ⟨by rw [hw2, ← hgp1]; exact Blk.new w1 63 [.bool p1, .string p2]⟩
    have HV2 := Aside.mk (HV.out.below hb12)
    have K12 := Aside.mk (K1.out.below hb12)
    have BB2 : Aside (Below base w w2) := ⟨BB.out.trans (hb12.mono HV.out.lt)⟩
    clear hw2 hb12 y1 y2 y3 y5 a0 a1 a2 lp
    have OWN : w2.ownsRow base 63 2 (.slice (some ⟨b, 0, none⟩) nw cB) nw (cpk s.way) := by have := HV2.out.ow; rwa [← HNW.out] at this
    refine (delPkt1 base nw cB m _ s.way w2 OWN HNW.out.symm hh (by omega)).mono ?_
    rintro e w3 ⟨rfl, ho3, hg3⟩
    have hbg : b ≠ g := HV2.out.gw b rfl
    have hbl2 : b < w.heap.size := hbl
    have HB3 : Aside (Blk w3 g 61 [.int .i64 win, .slice A s.given.length cap, .int .i64 s.acked, .int .i64 s.packed, vt, .slice (some ⟨b, 0, none⟩) s.way.length cB]) := ⟨(hg3.block g HV2.out.blk.lt (fun e => by injection e with e; exact hbg e.symm)).trans HV2.out.blk⟩
    have c5 : w3.cell? ⟨g, 5, none⟩ = some (.slice (some ⟨b, 0, none⟩) nw cB) := by have h := HB3.out.cell 5; rw [HNW.out]; exact h
    have f5 := HB3.out.free 5
    have lg3 : g < w3.heap.size := HB3.out.lt
    have hbgp : b ≠ gp := by have := HGP.out; omega
    have hbgp1 : b ≠ gp + 1 := by have := HGP.out; omega
    have K13 : Blk w3 gp 34 [.int .i64 3, .int .i64 (m : Int), .string t] := (hg3.block gp K12.out.lt (fun e => by injection e with e; exact hbgp e.symm)).trans K12.out
    have K23 : Blk w3 (gp + 1) 63 [.bool p1, .string p2] := (hg3.block (gp + 1) K2.out.lt (fun e => by injection e with e; exact hbgp1 e.symm)).trans K2.out
    have a0 : w3.cell? ⟨gp, 0, none⟩ = some (.int .i64 3) := K13.cell 0
    have k0 : w3.cell? ⟨gp + 1, 0, none⟩ = some (.bool p1) := K23.cell 0
    have k1 : w3.cell? ⟨gp + 1, 1, none⟩ = some (.string p2) := K23.cell 1
    have hlen : (s.way.eraseIdx m).length = nw - 1 := by rw [List.length_eraseIdx, if_pos HML.out, ← HNW.out]
    have HK5 : Aside (LkAt (w3.setCell ⟨g, 5, none⟩ (.slice (some ⟨b, 0, none⟩) (nw - 1) cB)) base g 61 win (outK m s)) := ⟨by
      refine ⟨_, vt, .slice (some ⟨b, 0, none⟩) (nw - 1) cB, HV2.out.setWay (s.way.eraseIdx m) (HB3.out.set 5 _) ?_ ?_ (Or.inl rfl)⟩
      · rw [hlen]
        exact ownsRow_of_block ho3 (fun q hq => heap_far (fun e => by injection hq with hq; exact hbg (hq.trans e)))
      · intro b' hb' hg' hr'
        rw [heap_far hg']
        exact hg3.block b' hb' (fun e => hr' e.symm)⟩
    have HB5 : Aside (Below base w (w3.setCell ⟨g, 5, none⟩ (.slice (some ⟨b, 0, none⟩) (nw - 1) cB))) := ⟨(BB2.out.trans (below_row hg3 HV2.out.lt (fun k hk => by injection hk with hk; exact Nat.le_trans hbb (Nat.le_of_eq hk)))).setCell HV2.out.hb _⟩
    clear OWN ho3 hg3 K13 K23 hlen hbgp hbgp1
    go_wp2_with fail
    have okO : LkOK KK (outK m s) := OKS.out.out
    refine (iHear base g win (outK m s) (p1, p2) _ HK5.out okO.way (by have := okO.taken; omega) okO.acked (by have := okO.packed; have := okO.given; omega) (by have h := (OKS.out.data _ (wayAt_mem HML.out)).2; rw [HP.out] at h; exact Nat.le_trans h (by decide))).mono ?_
    rintro e w6 ⟨rfl, hk6, hb6⟩
    have EA : sA = arrK (p1, p2) (outK m s) := by rw [HSA.out, Int.toNat_natCast, actK_3, if_pos HML.out, HP.out]
    rw [← EA] at hk6
    have HZ := Aside.mk hk6
    have BZ : Aside (Below base w w6) := ⟨HB5.out.trans hb6⟩
    clear hk6 hb6 EA HK5 HB5 okO
    obtain ⟨N9, hN9⟩ : ∃ N, N = sA.given.length := ⟨_, rfl⟩
    have HN9 := Aside.mk hN9
    have hN9b : N9 ≤ 1000000 := by have := OKA.out.given; omega
    clear hN9
    go_wp2_with fail
    go_loopw [] (fun wr => ∃ s' : Lk, Aside (LkAt wr base g 61 win s') ∧ Aside (Below base w wr) ∧ Aside (s9 = fillK win (s'.given.length - s'.packed) s') ∧ Aside (LkOK KK s') ∧ Aside (s'.given.length = N9)) (fun wr => N9 - natAt wr g 3)
    case atStart => exact ⟨sA, HZ, BZ, HR, OKA, ⟨HN9.out.symm⟩⟩
    case round =>
      obtain ⟨s', hat, hbz, hr9, hok, hgn⟩ := hrel
      clear HZ BZ HR OKA
      obtain ⟨vg', vt', vw', hv'⟩ := hat.out
      obtain ⟨A', cap', rfl, hcap', -⟩ := own_shape hv'.og
      have HV' := Aside.mk hv'
      have z0 := hv'.blk.cell 0
      have z1 := hv'.blk.cell 1
      have z2 := hv'.blk.cell 2
      have z3 := hv'.blk.cell 3
      simp only [List.getElem?_cons_zero, List.getElem?_cons_succ] at z0 z1 z2 z3
      have lgr : g < wr.heap.size := hv'.blk.lt
      rw [hgn.out] at z1 hcap'
      have hpk : s'.packed ≤ N9 := by rw [← hgn.out]; exact hok.out.packed
      have hak : s'.acked ≤ s'.packed := hok.out.acked
      have hmz : Aside (natAt wr g 3 = s'.packed) := ⟨natAt_of z3⟩
      obtain ⟨pk, hpe⟩ : ∃ pk, pk = s'.packed := ⟨_, rfl⟩
      obtain ⟨ak, hae⟩ : ∃ ak, ak = s'.acked := ⟨_, rfl⟩
      have HPE := Aside.mk hpe
      have HAE := Aside.mk hae
      rw [← hpe] at z3 hpk hak hmz
      rw [← hae] at z2 hak
      have hwr : IntKind.i64.wrap ((ak : Int) + (win : Int)) = (ak : Int) + (win : Int) := by rw [IntKind.wrap_i64]; omega
      clear hv' hpe hae hat
      by_cases c1 : (pk : Int) < N9
      · by_cases c2 : (pk : Int) < (ak : Int) + win
        · have HGO : Aside (s9 = fillK win ((stepK s').given.length - (stepK s').packed) (stepK s')) := ⟨by rw [hr9.out]; exact fillK_go (by rw [hgn.out, ← HPE.out]; omega) (by rw [← HPE.out, ← HAE.out]; omega)⟩
          have HOK2 : Aside (LkOK KK (stepK s')) := ⟨hok.out.step (by rw [hgn.out, ← HPE.out]; omega)⟩
          go_wp2_with fail
          refine region_env [(0, true), (1, true), (2, true), (3, true), (4, true), (5, true), (6, true), (7, true), (8, true), (9, true), (10, true), (11, true), (12, true), (13, true), (14, true), (15, true), (16, true), (17, true), (18, true), (19, true), (20, true), (21, true), (22, true), (23, true), (24, true), (25, true)] (fun w' => Below wr.heap.size wr w') 173 rfl (by kernel_rfl) (by kernel_rfl) (fun _ _ d _ _ h => by cases d <;> exact h) ((Below.refl _ _).drew) (fun ops fr HFR HSZ hl => ?_)
          have hl_0 := ops_start hl
          clear hl
          obtain ⟨H0, hl_1⟩ := ops_next 0 1 rfl hl_0
          clear hl_0
          obtain ⟨H1, hl_2⟩ := ops_next 1 2 rfl hl_1
          clear hl_1
          obtain ⟨H2, hl_3⟩ := ops_next 2 3 rfl hl_2
          clear hl_2
          obtain ⟨H3, hl_4⟩ := ops_next 3 4 rfl hl_3
          clear hl_3
          obtain ⟨H4, hl_5⟩ := ops_next 4 5 rfl hl_4
          clear hl_4
          obtain ⟨H5, hl_6⟩ := ops_next 5 6 rfl hl_5
          clear hl_5
          obtain ⟨H6, hl_7⟩ := ops_next 6 7 rfl hl_6
          clear hl_6
          obtain ⟨H7, hl_8⟩ := ops_next 7 8 rfl hl_7
          clear hl_7
          obtain ⟨H8, hl_9⟩ := ops_next 8 9 rfl hl_8
          clear hl_8
          obtain ⟨H9, hl_10⟩ := ops_next 9 10 rfl hl_9
          clear hl_9
          obtain ⟨H10, hl_11⟩ := ops_next 10 11 rfl hl_10
          clear hl_10
          obtain ⟨H11, hl_12⟩ := ops_next 11 12 rfl hl_11
          clear hl_11
          obtain ⟨H12, hl_13⟩ := ops_next 12 13 rfl hl_12
          clear hl_12
          obtain ⟨H13, hl_14⟩ := ops_next 13 14 rfl hl_13
          clear hl_13
          obtain ⟨H14, hl_15⟩ := ops_next 14 15 rfl hl_14
          clear hl_14
          obtain ⟨H15, hl_16⟩ := ops_next 15 16 rfl hl_15
          clear hl_15
          obtain ⟨H16, hl_17⟩ := ops_next 16 17 rfl hl_16
          clear hl_16
          obtain ⟨H17, hl_18⟩ := ops_next 17 18 rfl hl_17
          clear hl_17
          obtain ⟨H18, hl_19⟩ := ops_next 18 19 rfl hl_18
          clear hl_18
          obtain ⟨H19, hl_20⟩ := ops_next 19 20 rfl hl_19
          clear hl_19
          obtain ⟨H20, hl_21⟩ := ops_next 20 21 rfl hl_20
          clear hl_20
          obtain ⟨H21, hl_22⟩ := ops_next 21 22 rfl hl_21
          clear hl_21
          obtain ⟨H22, hl_23⟩ := ops_next 22 23 rfl hl_22
          clear hl_22
          obtain ⟨H23, hl_24⟩ := ops_next 23 24 rfl hl_23
          clear hl_23
          obtain ⟨H24, hl_25⟩ := ops_next 24 25 rfl hl_24
          clear hl_24
          obtain ⟨H25, hl_26⟩ := ops_next 25 26 rfl hl_25
          clear hl_25
          clear hl_26
          have x_0 : ext fr 0 = _ := congrArg (fun a => Act.eval a (.tmp 0)) HFR.out
          conv at x_0 => rhs; simp only [Act.eval, Array.getD_eq_getD_getElem?, List.getElem?_toArray, List.getElem?_cons_succ, List.getElem?_cons_zero, Option.getD_some]
          refine env_yes HSZ H0.out ?_ (fun w' hS => ?_) ?_
          rotate_left
          (go_simp
           rfl)
          refine env_yes HSZ H1.out ?_ (fun w' hS => ?_) ?_
          rotate_left
          (go_simp
           rfl)
          refine env_yes HSZ H2.out ?_ (fun w' hS => ?_) ?_
          rotate_left
          (go_simp
           rfl)
          refine env_yes HSZ H3.out ?_ (fun w' hS => ?_) ?_
          rotate_left
          (have h := (hS.cell (p := ⟨g, 3, none⟩) lgr).trans z3
           go_simp
           rfl)
          refine env_yes HSZ H4.out ?_ (fun w' hS => ?_) ?_
          rotate_left
          (go_simp
           rfl)
          refine env_yes HSZ H5.out ?_ (fun w' hS => ?_) ?_
          rotate_left
          (go_simp
           rfl)
          refine env_yes HSZ H6.out ?_ (fun w' hS => ?_) ?_
          rotate_left
          (go_simp
           rfl)
          refine env_yes HSZ H7.out ?_ (fun w' hS => ?_) ?_
          rotate_left
          (have h := (hS.cell (p := ⟨g, 1, none⟩) lgr).trans z1
           go_simp
           rfl)
          refine env_yes HSZ H8.out ?_ (fun w' hS => ?_) ?_
          rotate_left
          (go_simp
           rfl)
          refine env_yes HSZ H9.out ?_ (fun w' hS => ?_) ?_
          rotate_left
          (go_simp
           rfl)
          refine env_yes HSZ H10.out ?_ (fun w' hS => ?_) ?_
          rotate_left
          (go_simp
           rfl)
          refine env_on HSZ H11.out H10.out (by first | rfl | go_simp) ?_ (fun w' hS => ?_) ?_
          rotate_left
          (go_simp
           rfl)
          refine env_on HSZ H12.out H10.out (by first | rfl | go_simp) ?_ (fun w' hS => ?_) ?_
          rotate_left
          (go_simp
           rfl)
          refine env_on HSZ H13.out H10.out (by first | rfl | go_simp) ?_ (fun w' hS => ?_) ?_
          rotate_left
          (go_simp
           rfl)
          refine env_on HSZ H14.out H10.out (by first | rfl | go_simp) ?_ (fun w' hS => ?_) ?_
          rotate_left
          (have h := (hS.cell (p := ⟨g, 3, none⟩) lgr).trans z3
           go_simp
           rfl)
          refine env_on HSZ H15.out H10.out (by first | rfl | go_simp) ?_ (fun w' hS => ?_) ?_
          rotate_left
          (go_simp
           rfl)
          refine env_on HSZ H16.out H10.out (by first | rfl | go_simp) ?_ (fun w' hS => ?_) ?_
          rotate_left
          (go_simp
           rfl)
          refine env_on HSZ H17.out H10.out (by first | rfl | go_simp) ?_ (fun w' hS => ?_) ?_
          rotate_left
          (go_simp
           rfl)
          refine env_on HSZ H18.out H10.out (by first | rfl | go_simp) ?_ (fun w' hS => ?_) ?_
          rotate_left
          (have h := (hS.cell (p := ⟨g, 2, none⟩) lgr).trans z2
           go_simp
           rfl)
          refine env_on HSZ H19.out H10.out (by first | rfl | go_simp) ?_ (fun w' hS => ?_) ?_
          rotate_left
          (go_simp
           rfl)
          refine env_on HSZ H20.out H10.out (by first | rfl | go_simp) ?_ (fun w' hS => ?_) ?_
          rotate_left
          (go_simp
           rfl)
          refine env_on HSZ H21.out H10.out (by first | rfl | go_simp) ?_ (fun w' hS => ?_) ?_
          rotate_left
          (go_simp
           rfl)
          refine env_on HSZ H22.out H10.out (by first | rfl | go_simp) ?_ (fun w' hS => ?_) ?_
          rotate_left
          (have h := (hS.cell (p := ⟨g, 0, none⟩) lgr).trans z0
           go_simp
           rfl)
          refine env_on HSZ H23.out H10.out (by first | rfl | go_simp) ?_ (fun w' hS => ?_) ?_
          rotate_left
          (go_simp
           rfl)
          refine env_on HSZ H24.out H10.out (by first | rfl | go_simp) ?_ (fun w' hS => ?_) ?_
          rotate_left
          (go_simp
           rfl)
          refine env_yes HSZ H25.out ?_ (fun w' hS => ?_) ?_
          rotate_left
          (go_simp
           rfl)
          refine env_end ?_
          have hfr := HFR.out
          clear HFR HSZ H0 H1 H2 H3 H4 H5 H6 H7 H8 H9 H10 H11 H12 H13 H14 H15 H16 H17 H18 H19 H20 H21 H22 H23 H24 H25 x_0
          subst hfr
          simp only [putAll, Act.put, List.setIfInBounds_toArray, List.set_cons_succ, List.set_cons_zero]
          have z3d : wr.drew.cell? ⟨g, 3, none⟩ = some (.int .i64 pk) := z3
          go_wp2_with fail
          refine (iPack base g win pk s' _ (show LkAt wr.drew base g 61 win s' from ⟨_, _, _, HV'.out.below (Below.refl _ _).drew⟩) (by rw [hgn.out]; omega) (by rw [hgn.out]; omega) hok.out.texts hok.out.way).mono ?_
          rintro e w5 ⟨rfl, hk5, hb5⟩
          obtain ⟨vg5, vt5, vw5, hv5⟩ := hk5
          have hsame := packK_given pk s'
          have q3 := hv5.blk.cell 3
          have q3f := hv5.blk.free 3
          simp only [List.getElem?_cons_zero, List.getElem?_cons_succ] at q3
          rw [hsame.2.2.1, ← HPE.out] at q3
          have lg5 : g < w5.heap.size := hv5.blk.lt
          have HS5 : Aside (LkAt (w5.setCell ⟨g, 3, none⟩ (.int .i64 ((pk : Int) + 1))) base g 61 win (stepK s')) := ⟨by
            have h := hv5.setInts (packK pk s').acked (pk + 1) (hv5.blk.set 3 (.int .i64 ((pk : Int) + 1))) (fun b hb hg => heap_far hg)
            unfold stepK
            rw [← HPE.out]
            exact ⟨_, _, _, h⟩⟩
          have HB5 : Aside (Below base w (w5.setCell ⟨g, 3, none⟩ (.int .i64 ((pk : Int) + 1)))) := ⟨(hbz.out.drew.trans hb5).setCell hv5.hb _⟩
          have hm5 : Aside (natAt (w5.setCell ⟨g, 3, none⟩ (.int .i64 ((pk : Int) + 1))) g 3 = pk + 1) := ⟨natAt_of (n := pk + 1) (World.cell?_setCell_same _ _ _ q3)⟩
          clear hv5 hb5 hsame z0 z1 z2 z3 z3d hr9 hok hbz
          go_wp2_with fail
          go_roundw
          case rel => exact ⟨stepK s', HS5, HB5, HGO, HOK2, ⟨by rw [stepK_given]; exact hgn.out⟩⟩
          case measure => rw [hm5.out, hmz.out]; omega
        · have HST : Aside (s9 = s') := ⟨by rw [hr9.out]; exact fillK_stop (by rw [← HPE.out, ← HAE.out]; omega)⟩
          have c2n : (ak : Int) + win ≤ pk := by omega
          have c2m : ak + win ≤ pk := by omega
          go_wp2_with fail
          refine region_env [(0, true), (1, true), (2, true), (3, true), (4, true), (5, true), (6, true), (7, true), (8, true), (9, true), (10, true), (11, true), (12, true), (13, true), (14, true), (15, true), (16, true), (17, true), (18, true), (19, true), (20, true), (21, true), (22, true), (23, true), (24, true), (25, true)] (fun w' => Below wr.heap.size wr w') 173 rfl (by kernel_rfl) (by kernel_rfl) (fun _ _ d _ _ h => by cases d <;> exact h) ((Below.refl _ _).drew) (fun ops fr HFR HSZ hl => ?_)
          have hl_0 := ops_start hl
          clear hl
          obtain ⟨H0, hl_1⟩ := ops_next 0 1 rfl hl_0
          clear hl_0
          obtain ⟨H1, hl_2⟩ := ops_next 1 2 rfl hl_1
          clear hl_1
          obtain ⟨H2, hl_3⟩ := ops_next 2 3 rfl hl_2
          clear hl_2
          obtain ⟨H3, hl_4⟩ := ops_next 3 4 rfl hl_3
          clear hl_3
          obtain ⟨H4, hl_5⟩ := ops_next 4 5 rfl hl_4
          clear hl_4
          obtain ⟨H5, hl_6⟩ := ops_next 5 6 rfl hl_5
          clear hl_5
          obtain ⟨H6, hl_7⟩ := ops_next 6 7 rfl hl_6
          clear hl_6
          obtain ⟨H7, hl_8⟩ := ops_next 7 8 rfl hl_7
          clear hl_7
          obtain ⟨H8, hl_9⟩ := ops_next 8 9 rfl hl_8
          clear hl_8
          obtain ⟨H9, hl_10⟩ := ops_next 9 10 rfl hl_9
          clear hl_9
          obtain ⟨H10, hl_11⟩ := ops_next 10 11 rfl hl_10
          clear hl_10
          obtain ⟨H11, hl_12⟩ := ops_next 11 12 rfl hl_11
          clear hl_11
          obtain ⟨H12, hl_13⟩ := ops_next 12 13 rfl hl_12
          clear hl_12
          obtain ⟨H13, hl_14⟩ := ops_next 13 14 rfl hl_13
          clear hl_13
          obtain ⟨H14, hl_15⟩ := ops_next 14 15 rfl hl_14
          clear hl_14
          obtain ⟨H15, hl_16⟩ := ops_next 15 16 rfl hl_15
          clear hl_15
          obtain ⟨H16, hl_17⟩ := ops_next 16 17 rfl hl_16
          clear hl_16
          obtain ⟨H17, hl_18⟩ := ops_next 17 18 rfl hl_17
          clear hl_17
          obtain ⟨H18, hl_19⟩ := ops_next 18 19 rfl hl_18
          clear hl_18
          obtain ⟨H19, hl_20⟩ := ops_next 19 20 rfl hl_19
          clear hl_19
          obtain ⟨H20, hl_21⟩ := ops_next 20 21 rfl hl_20
          clear hl_20
          obtain ⟨H21, hl_22⟩ := ops_next 21 22 rfl hl_21
          clear hl_21
          obtain ⟨H22, hl_23⟩ := ops_next 22 23 rfl hl_22
          clear hl_22
          obtain ⟨H23, hl_24⟩ := ops_next 23 24 rfl hl_23
          clear hl_23
          obtain ⟨H24, hl_25⟩ := ops_next 24 25 rfl hl_24
          clear hl_24
          obtain ⟨H25, hl_26⟩ := ops_next 25 26 rfl hl_25
          clear hl_25
          clear hl_26
          have x_0 : ext fr 0 = _ := congrArg (fun a => Act.eval a (.tmp 0)) HFR.out
          conv at x_0 => rhs; simp only [Act.eval, Array.getD_eq_getD_getElem?, List.getElem?_toArray, List.getElem?_cons_succ, List.getElem?_cons_zero, Option.getD_some]
          refine env_yes HSZ H0.out ?_ (fun w' hS => ?_) ?_
          rotate_left
          (go_simp
           rfl)
          refine env_yes HSZ H1.out ?_ (fun w' hS => ?_) ?_
          rotate_left
          (go_simp
           rfl)
          refine env_yes HSZ H2.out ?_ (fun w' hS => ?_) ?_
          rotate_left
          (go_simp
           rfl)
          refine env_yes HSZ H3.out ?_ (fun w' hS => ?_) ?_
          rotate_left
          (have h := (hS.cell (p := ⟨g, 3, none⟩) lgr).trans z3
           go_simp
           rfl)
          refine env_yes HSZ H4.out ?_ (fun w' hS => ?_) ?_
          rotate_left
          (go_simp
           rfl)
          refine env_yes HSZ H5.out ?_ (fun w' hS => ?_) ?_
          rotate_left
          (go_simp
           rfl)
          refine env_yes HSZ H6.out ?_ (fun w' hS => ?_) ?_
          rotate_left
          (go_simp
           rfl)
          refine env_yes HSZ H7.out ?_ (fun w' hS => ?_) ?_
          rotate_left
          (have h := (hS.cell (p := ⟨g, 1, none⟩) lgr).trans z1
           go_simp
           rfl)
          refine env_yes HSZ H8.out ?_ (fun w' hS => ?_) ?_
          rotate_left
          (go_simp
           rfl)
          refine env_yes HSZ H9.out ?_ (fun w' hS => ?_) ?_
          rotate_left
          (go_simp
           rfl)
          refine env_yes HSZ H10.out ?_ (fun w' hS => ?_) ?_
          rotate_left
          (go_simp
           rfl)
          refine env_on HSZ H11.out H10.out (by first | rfl | go_simp) ?_ (fun w' hS => ?_) ?_
          rotate_left
          (go_simp
           rfl)
          refine env_on HSZ H12.out H10.out (by first | rfl | go_simp) ?_ (fun w' hS => ?_) ?_
          rotate_left
          (go_simp
           rfl)
          refine env_on HSZ H13.out H10.out (by first | rfl | go_simp) ?_ (fun w' hS => ?_) ?_
          rotate_left
          (go_simp
           rfl)
          refine env_on HSZ H14.out H10.out (by first | rfl | go_simp) ?_ (fun w' hS => ?_) ?_
          rotate_left
          (have h := (hS.cell (p := ⟨g, 3, none⟩) lgr).trans z3
           go_simp
           rfl)
          refine env_on HSZ H15.out H10.out (by first | rfl | go_simp) ?_ (fun w' hS => ?_) ?_
          rotate_left
          (go_simp
           rfl)
          refine env_on HSZ H16.out H10.out (by first | rfl | go_simp) ?_ (fun w' hS => ?_) ?_
          rotate_left
          (go_simp
           rfl)
          refine env_on HSZ H17.out H10.out (by first | rfl | go_simp) ?_ (fun w' hS => ?_) ?_
          rotate_left
          (go_simp
           rfl)
          refine env_on HSZ H18.out H10.out (by first | rfl | go_simp) ?_ (fun w' hS => ?_) ?_
          rotate_left
          (have h := (hS.cell (p := ⟨g, 2, none⟩) lgr).trans z2
           go_simp
           rfl)
          refine env_on HSZ H19.out H10.out (by first | rfl | go_simp) ?_ (fun w' hS => ?_) ?_
          rotate_left
          (go_simp
           rfl)
          refine env_on HSZ H20.out H10.out (by first | rfl | go_simp) ?_ (fun w' hS => ?_) ?_
          rotate_left
          (go_simp
           rfl)
          refine env_on HSZ H21.out H10.out (by first | rfl | go_simp) ?_ (fun w' hS => ?_) ?_
          rotate_left
          (go_simp
           rfl)
          refine env_on HSZ H22.out H10.out (by first | rfl | go_simp) ?_ (fun w' hS => ?_) ?_
          rotate_left
          (have h := (hS.cell (p := ⟨g, 0, none⟩) lgr).trans z0
           go_simp
           rfl)
          refine env_on HSZ H23.out H10.out (by first | rfl | go_simp) ?_ (fun w' hS => ?_) ?_
          rotate_left
          (go_simp
           rfl)
          refine env_on HSZ H24.out H10.out (by first | rfl | go_simp) ?_ (fun w' hS => ?_) ?_
          rotate_left
          (go_simp
           rfl)
          refine env_yes HSZ H25.out ?_ (fun w' hS => ?_) ?_
          rotate_left
          (go_simp
           rfl)
          refine env_end ?_
          have hfr := HFR.out
          clear HFR HSZ H0 H1 H2 H3 H4 H5 H6 H7 H8 H9 H10 H11 H12 H13 H14 H15 H16 H17 H18 H19 H20 H21 H22 H23 H24 H25 x_0
          subst hfr
          simp only [putAll, Act.put, List.setIfInBounds_toArray, List.set_cons_succ, List.set_cons_zero]
          go_wp2_with fail
          go_end0
          exact ⟨rfl, by rw [HST.out]; exact ⟨_, _, _, HV'.out.below (Below.refl _ _).drew⟩, hbz.out.drew⟩
      · have HST : Aside (s9 = s') := ⟨by rw [hr9.out]; exact fillK_stop (by rw [← HPE.out, hgn.out]; omega)⟩
        have c1n : (N9 : Int) ≤ pk := by omega
        have c1m : N9 ≤ pk := by omega
        go_wp2_with fail
        refine region_env [(0, true), (1, true), (2, true), (3, true), (4, true), (5, true), (6, true), (7, true), (8, true), (9, true), (10, true), (11, true), (12, true), (13, true), (14, true), (15, true), (16, true), (17, true), (18, true), (19, true), (20, true), (21, true), (22, true), (23, true), (24, true), (25, true)] (fun w' => Below wr.heap.size wr w') 173 rfl (by kernel_rfl) (by kernel_rfl) (fun _ _ d _ _ h => by cases d <;> exact h) ((Below.refl _ _).drew) (fun ops fr HFR HSZ hl => ?_)
        have hl_0 := ops_start hl
        clear hl
        obtain ⟨H0, hl_1⟩ := ops_next 0 1 rfl hl_0
        clear hl_0
        obtain ⟨H1, hl_2⟩ := ops_next 1 2 rfl hl_1
        clear hl_1
        obtain ⟨H2, hl_3⟩ := ops_next 2 3 rfl hl_2
        clear hl_2
        obtain ⟨H3, hl_4⟩ := ops_next 3 4 rfl hl_3
        clear hl_3
        obtain ⟨H4, hl_5⟩ := ops_next 4 5 rfl hl_4
        clear hl_4
        obtain ⟨H5, hl_6⟩ := ops_next 5 6 rfl hl_5
        clear hl_5
        obtain ⟨H6, hl_7⟩ := ops_next 6 7 rfl hl_6
        clear hl_6
        obtain ⟨H7, hl_8⟩ := ops_next 7 8 rfl hl_7
        clear hl_7
        obtain ⟨H8, hl_9⟩ := ops_next 8 9 rfl hl_8
        clear hl_8
        obtain ⟨H9, hl_10⟩ := ops_next 9 10 rfl hl_9
        clear hl_9
        obtain ⟨H10, hl_11⟩ := ops_next 10 11 rfl hl_10
        clear hl_10
        obtain ⟨H11, hl_12⟩ := ops_next 11 12 rfl hl_11
        clear hl_11
        obtain ⟨H12, hl_13⟩ := ops_next 12 13 rfl hl_12
        clear hl_12
        obtain ⟨H13, hl_14⟩ := ops_next 13 14 rfl hl_13
        clear hl_13
        obtain ⟨H14, hl_15⟩ := ops_next 14 15 rfl hl_14
        clear hl_14
        obtain ⟨H15, hl_16⟩ := ops_next 15 16 rfl hl_15
        clear hl_15
        obtain ⟨H16, hl_17⟩ := ops_next 16 17 rfl hl_16
        clear hl_16
        obtain ⟨H17, hl_18⟩ := ops_next 17 18 rfl hl_17
        clear hl_17
        obtain ⟨H18, hl_19⟩ := ops_next 18 19 rfl hl_18
        clear hl_18
        obtain ⟨H19, hl_20⟩ := ops_next 19 20 rfl hl_19
        clear hl_19
        obtain ⟨H20, hl_21⟩ := ops_next 20 21 rfl hl_20
        clear hl_20
        obtain ⟨H21, hl_22⟩ := ops_next 21 22 rfl hl_21
        clear hl_21
        obtain ⟨H22, hl_23⟩ := ops_next 22 23 rfl hl_22
        clear hl_22
        obtain ⟨H23, hl_24⟩ := ops_next 23 24 rfl hl_23
        clear hl_23
        obtain ⟨H24, hl_25⟩ := ops_next 24 25 rfl hl_24
        clear hl_24
        obtain ⟨H25, hl_26⟩ := ops_next 25 26 rfl hl_25
        clear hl_25
        clear hl_26
        have x_0 : ext fr 0 = _ := congrArg (fun a => Act.eval a (.tmp 0)) HFR.out
        conv at x_0 => rhs; simp only [Act.eval, Array.getD_eq_getD_getElem?, List.getElem?_toArray, List.getElem?_cons_succ, List.getElem?_cons_zero, Option.getD_some]
        refine env_yes HSZ H0.out ?_ (fun w' hS => ?_) ?_
        rotate_left
        (go_simp
         rfl)
        refine env_yes HSZ H1.out ?_ (fun w' hS => ?_) ?_
        rotate_left
        (go_simp
         rfl)
        refine env_yes HSZ H2.out ?_ (fun w' hS => ?_) ?_
        rotate_left
        (go_simp
         rfl)
        refine env_yes HSZ H3.out ?_ (fun w' hS => ?_) ?_
        rotate_left
        (have h := (hS.cell (p := ⟨g, 3, none⟩) lgr).trans z3
         go_simp
         rfl)
        refine env_yes HSZ H4.out ?_ (fun w' hS => ?_) ?_
        rotate_left
        (go_simp
         rfl)
        refine env_yes HSZ H5.out ?_ (fun w' hS => ?_) ?_
        rotate_left
        (go_simp
         rfl)
        refine env_yes HSZ H6.out ?_ (fun w' hS => ?_) ?_
        rotate_left
        (go_simp
         rfl)
        refine env_yes HSZ H7.out ?_ (fun w' hS => ?_) ?_
        rotate_left
        (have h := (hS.cell (p := ⟨g, 1, none⟩) lgr).trans z1
         go_simp
         rfl)
        refine env_yes HSZ H8.out ?_ (fun w' hS => ?_) ?_
        rotate_left
        (go_simp
         rfl)
        refine env_yes HSZ H9.out ?_ (fun w' hS => ?_) ?_
        rotate_left
        (go_simp
         rfl)
        refine env_yes HSZ H10.out ?_ (fun w' hS => ?_) ?_
        rotate_left
        (go_simp
         rfl)
        refine env_off HSZ H11.out H10.out (by first | rfl | go_simp) ?_
        refine env_off HSZ H12.out H10.out (by first | rfl | go_simp) ?_
        refine env_off HSZ H13.out H10.out (by first | rfl | go_simp) ?_
        refine env_off HSZ H14.out H10.out (by first | rfl | go_simp) ?_
        refine env_off HSZ H15.out H10.out (by first | rfl | go_simp) ?_
        refine env_off HSZ H16.out H10.out (by first | rfl | go_simp) ?_
        refine env_off HSZ H17.out H10.out (by first | rfl | go_simp) ?_
        refine env_off HSZ H18.out H10.out (by first | rfl | go_simp) ?_
        refine env_off HSZ H19.out H10.out (by first | rfl | go_simp) ?_
        refine env_off HSZ H20.out H10.out (by first | rfl | go_simp) ?_
        refine env_off HSZ H21.out H10.out (by first | rfl | go_simp) ?_
        refine env_off HSZ H22.out H10.out (by first | rfl | go_simp) ?_
        refine env_off HSZ H23.out H10.out (by first | rfl | go_simp) ?_
        refine env_off HSZ H24.out H10.out (by first | rfl | go_simp) ?_
        refine env_yes HSZ H25.out ?_ (fun w' hS => ?_) ?_
        rotate_left
        (go_simp
         rfl)
        refine env_end ?_
        have hfr := HFR.out
        clear HFR HSZ H0 H1 H2 H3 H4 H5 H6 H7 H8 H9 H10 H11 H12 H13 H14 H15 H16 H17 H18 H19 H20 H21 H22 H23 H24 H25 x_0
        subst hfr
        simp only [putAll, Act.put, List.setIfInBounds_toArray, List.set_cons_succ, List.set_cons_zero]
        go_wp2_with fail
        go_end0
        exact ⟨rfl, by rw [HST.out]; exact ⟨_, _, _, HV'.out.below (Below.refl _ _).drew⟩, hbz.out.drew⟩
  · have hmn : ¬ (m : Int) < nw := by omega
    have hmn2 : (nw : Int) ≤ m := by omega
    have EA : sA = s := by rw [HSA.out, Int.toNat_natCast, actK_3, if_neg (by rw [← HNW.out]; omega)]
    go_enter Try.func25, Try.ntmps25
    go_wp2_with fail
    have bel : Below w.heap.size w (w.alloc (.cells #[.int .i64 3, .int .i64 (m : Int), .string t] 34)) := by go_grown
    have HV := Aside.mk (HW.out.below bel)
    have K1 := Aside.mk (Blk.new w 34 [.int .i64 3, .int .i64 (m : Int), .string t])
    have BB : Aside (Below base w (w.alloc (.cells #[.int .i64 3, .int .i64 (m : Int), .string t] 34))) := ⟨bel.mono HW.out.lt⟩
    obtain ⟨w1, hw1⟩ : ∃ x, x = w.alloc (.cells #[.int .i64 3, .int .i64 (m : Int), .string t] 34) := ⟨_, rfl⟩
    obtain ⟨gp, hgp⟩ : ∃ x, x = w.heap.size := ⟨_, rfl⟩
    have hgp1 : w1.heap.size = gp + 1 := by rw [hw1, hgp]; simp
    have HGP := Aside.mk hgp
    rw [← hw1] at HV K1 BB ⊢
    rw [← hgp] at K1 lg ⊢
    clear bel hw1 hgp y1 y2 y3 y5
    have y1 : w1.cell? ⟨g, 1, none⟩ = some (.slice A ng cap) := by have h := HV.out.blk.cell 1; rw [HNG.out]; exact h
    have y2 : w1.cell? ⟨g, 2, none⟩ = some (.int .i64 ak0) := by have h := HV.out.blk.cell 2; rw [HAK0.out]; exact h
    have y3 : w1.cell? ⟨g, 3, none⟩ = some (.int .i64 pk0) := by have h := HV.out.blk.cell 3; rw [HPK0.out]; exact h
    have y5 : w1.cell? ⟨g, 5, none⟩ = some (.slice B nw cB) := by have h := HV.out.blk.cell 5; rw [HNW.out]; exact h
    have a0 : w1.cell? ⟨gp, 0, none⟩ = some (.int .i64 3) := K1.out.cell 0
    have a1 : w1.cell? ⟨gp, 1, none⟩ = some (.int .i64 (m : Int)) := K1.out.cell 1
    have a2 : w1.cell? ⟨gp, 2, none⟩ = some (.string t) := K1.out.cell 2
    have lp : gp < w1.heap.size := K1.out.lt
    have lg1 : g < w1.heap.size := HV.out.blk.lt
    have HZ : Aside (LkAt w1 base g 61 win sA) := ⟨by rw [EA]; exact ⟨_, _, _, HV.out⟩⟩
    have BZ := BB
    clear y1 y2 y3 y5 a0 a1 a2 EA
    obtain ⟨N9, hN9⟩ : ∃ N, N = sA.given.length := ⟨_, rfl⟩
    have HN9 := Aside.mk hN9
    have hN9b : N9 ≤ 1000000 := by have := OKA.out.given; omega
    clear hN9
    go_wp2_with fail
    go_loopw [] (fun wr => ∃ s' : Lk, Aside (LkAt wr base g 61 win s') ∧ Aside (Below base w wr) ∧ Aside (s9 = fillK win (s'.given.length - s'.packed) s') ∧ Aside (LkOK KK s') ∧ Aside (s'.given.length = N9)) (fun wr => N9 - natAt wr g 3)
    case atStart => exact ⟨sA, HZ, BZ, HR, OKA, ⟨HN9.out.symm⟩⟩
    case round =>
      obtain ⟨s', hat, hbz, hr9, hok, hgn⟩ := hrel
      clear HZ BZ HR OKA
      obtain ⟨vg', vt', vw', hv'⟩ := hat.out
      obtain ⟨A', cap', rfl, hcap', -⟩ := own_shape hv'.og
      have HV' := Aside.mk hv'
      have z0 := hv'.blk.cell 0
      have z1 := hv'.blk.cell 1
      have z2 := hv'.blk.cell 2
      have z3 := hv'.blk.cell 3
      simp only [List.getElem?_cons_zero, List.getElem?_cons_succ] at z0 z1 z2 z3
      have lgr : g < wr.heap.size := hv'.blk.lt
      rw [hgn.out] at z1 hcap'
      have hpk : s'.packed ≤ N9 := by rw [← hgn.out]; exact hok.out.packed
      have hak : s'.acked ≤ s'.packed := hok.out.acked
      have hmz : Aside (natAt wr g 3 = s'.packed) := ⟨natAt_of z3⟩
      obtain ⟨pk, hpe⟩ : ∃ pk, pk = s'.packed := ⟨_, rfl⟩
      obtain ⟨ak, hae⟩ : ∃ ak, ak = s'.acked := ⟨_, rfl⟩
      have HPE := Aside.mk hpe
      have HAE := Aside.mk hae
      rw [← hpe] at z3 hpk hak hmz
      rw [← hae] at z2 hak
      have hwr : IntKind.i64.wrap ((ak : Int) + (win : Int)) = (ak : Int) + (win : Int) := by rw [IntKind.wrap_i64]; omega
      clear hv' hpe hae hat
      by_cases c1 : (pk : Int) < N9
      · by_cases c2 : (pk : Int) < (ak : Int) + win
        · have HGO : Aside (s9 = fillK win ((stepK s').given.length - (stepK s').packed) (stepK s')) := ⟨by rw [hr9.out]; exact fillK_go (by rw [hgn.out, ← HPE.out]; omega) (by rw [← HPE.out, ← HAE.out]; omega)⟩
          have HOK2 : Aside (LkOK KK (stepK s')) := ⟨hok.out.step (by rw [hgn.out, ← HPE.out]; omega)⟩
          go_wp2_with fail
          refine region_env [(0, true), (1, true), (2, true), (3, true), (4, true), (5, true), (6, true), (7, true), (8, true), (9, true), (10, true), (11, true), (12, true), (13, true), (14, true), (15, true), (16, true), (17, true), (18, true), (19, true), (20, true), (21, true), (22, true), (23, true), (24, true), (25, true)] (fun w' => Below wr.heap.size wr w') 173 rfl (by kernel_rfl) (by kernel_rfl) (fun _ _ d _ _ h => by cases d <;> exact h) ((Below.refl _ _).drew) (fun ops fr HFR HSZ hl => ?_)
          have hl_0 := ops_start hl
          clear hl
          obtain ⟨H0, hl_1⟩ := ops_next 0 1 rfl hl_0
          clear hl_0
          obtain ⟨H1, hl_2⟩ := ops_next 1 2 rfl hl_1
          clear hl_1
          obtain ⟨H2, hl_3⟩ := ops_next 2 3 rfl hl_2
          clear hl_2
          obtain ⟨H3, hl_4⟩ := ops_next 3 4 rfl hl_3
          clear hl_3
          obtain ⟨H4, hl_5⟩ := ops_next 4 5 rfl hl_4
          clear hl_4
          obtain ⟨H5, hl_6⟩ := ops_next 5 6 rfl hl_5
          clear hl_5
          obtain ⟨H6, hl_7⟩ := ops_next 6 7 rfl hl_6
          clear hl_6
          obtain ⟨H7, hl_8⟩ := ops_next 7 8 rfl hl_7
          clear hl_7
          obtain ⟨H8, hl_9⟩ := ops_next 8 9 rfl hl_8
          clear hl_8
          obtain ⟨H9, hl_10⟩ := ops_next 9 10 rfl hl_9
          clear hl_9
          obtain ⟨H10, hl_11⟩ := ops_next 10 11 rfl hl_10
          clear hl_10
          obtain ⟨H11, hl_12⟩ := ops_next 11 12 rfl hl_11
          clear hl_11
          obtain ⟨H12, hl_13⟩ := ops_next 12 13 rfl hl_12
          clear hl_12
          obtain ⟨H13, hl_14⟩ := ops_next 13 14 rfl hl_13
          clear hl_13
          obtain ⟨H14, hl_15⟩ := ops_next 14 15 rfl hl_14
          clear hl_14
          obtain ⟨H15, hl_16⟩ := ops_next 15 16 rfl hl_15
          clear hl_15
          obtain ⟨H16, hl_17⟩ := ops_next 16 17 rfl hl_16
          clear hl_16
          obtain ⟨H17, hl_18⟩ := ops_next 17 18 rfl hl_17
          clear hl_17
          obtain ⟨H18, hl_19⟩ := ops_next 18 19 rfl hl_18
          clear hl_18
          obtain ⟨H19, hl_20⟩ := ops_next 19 20 rfl hl_19
          clear hl_19
          obtain ⟨H20, hl_21⟩ := ops_next 20 21 rfl hl_20
          clear hl_20
          obtain ⟨H21, hl_22⟩ := ops_next 21 22 rfl hl_21
          clear hl_21
          obtain ⟨H22, hl_23⟩ := ops_next 22 23 rfl hl_22
          clear hl_22
          obtain ⟨H23, hl_24⟩ := ops_next 23 24 rfl hl_23
          clear hl_23
          obtain ⟨H24, hl_25⟩ := ops_next 24 25 rfl hl_24
          clear hl_24
          obtain ⟨H25, hl_26⟩ := ops_next 25 26 rfl hl_25
          clear hl_25
          clear hl_26
          have x_0 : ext fr 0 = _ := congrArg (fun a => Act.eval a (.tmp 0)) HFR.out
          conv at x_0 => rhs; simp only [Act.eval, Array.getD_eq_getD_getElem?, List.getElem?_toArray, List.getElem?_cons_succ, List.getElem?_cons_zero, Option.getD_some]
          refine env_yes HSZ H0.out ?_ (fun w' hS => ?_) ?_
          rotate_left
          (go_simp
           rfl)
          refine env_yes HSZ H1.out ?_ (fun w' hS => ?_) ?_
          rotate_left
          (go_simp
           rfl)
          refine env_yes HSZ H2.out ?_ (fun w' hS => ?_) ?_
          rotate_left
          (go_simp
           rfl)
          refine env_yes HSZ H3.out ?_ (fun w' hS => ?_) ?_
          rotate_left
          (have h := (hS.cell (p := ⟨g, 3, none⟩) lgr).trans z3
           go_simp
           rfl)
          refine env_yes HSZ H4.out ?_ (fun w' hS => ?_) ?_
          rotate_left
          (go_simp
           rfl)
          refine env_yes HSZ H5.out ?_ (fun w' hS => ?_) ?_
          rotate_left
          (go_simp
           rfl)
          refine env_yes HSZ H6.out ?_ (fun w' hS => ?_) ?_
          rotate_left
          (go_simp
           rfl)
          refine env_yes HSZ H7.out ?_ (fun w' hS => ?_) ?_
          rotate_left
          (have h := (hS.cell (p := ⟨g, 1, none⟩) lgr).trans z1
           go_simp
           rfl)
          refine env_yes HSZ H8.out ?_ (fun w' hS => ?_) ?_
          rotate_left
          (go_simp
           rfl)
          refine env_yes HSZ H9.out ?_ (fun w' hS => ?_) ?_
          rotate_left
          (go_simp
           rfl)
          refine env_yes HSZ H10.out ?_ (fun w' hS => ?_) ?_
          rotate_left
          (go_simp
           rfl)
          refine env_on HSZ H11.out H10.out (by first | rfl | go_simp) ?_ (fun w' hS => ?_) ?_
          rotate_left
          (go_simp
           rfl)
          refine env_on HSZ H12.out H10.out (by first | rfl | go_simp) ?_ (fun w' hS => ?_) ?_
          rotate_left
          (go_simp
           rfl)
          refine env_on HSZ H13.out H10.out (by first | rfl | go_simp) ?_ (fun w' hS => ?_) ?_
          rotate_left
          (go_simp
           rfl)
          refine env_on HSZ H14.out H10.out (by first | rfl | go_simp) ?_ (fun w' hS => ?_) ?_
          rotate_left
          (have h := (hS.cell (p := ⟨g, 3, none⟩) lgr).trans z3
           go_simp
           rfl)
          refine env_on HSZ H15.out H10.out (by first | rfl | go_simp) ?_ (fun w' hS => ?_) ?_
          rotate_left
          (go_simp
           rfl)
          refine env_on HSZ H16.out H10.out (by first | rfl | go_simp) ?_ (fun w' hS => ?_) ?_
          rotate_left
          (go_simp
           rfl)
          refine env_on HSZ H17.out H10.out (by first | rfl | go_simp) ?_ (fun w' hS => ?_) ?_
          rotate_left
          (go_simp
           rfl)
          refine env_on HSZ H18.out H10.out (by first | rfl | go_simp) ?_ (fun w' hS => ?_) ?_
          rotate_left
          (have h := (hS.cell (p := ⟨g, 2, none⟩) lgr).trans z2
           go_simp
           rfl)
          refine env_on HSZ H19.out H10.out (by first | rfl | go_simp) ?_ (fun w' hS => ?_) ?_
          rotate_left
          (go_simp
           rfl)
          refine env_on HSZ H20.out H10.out (by first | rfl | go_simp) ?_ (fun w' hS => ?_) ?_
          rotate_left
          (go_simp
           rfl)
          refine env_on HSZ H21.out H10.out (by first | rfl | go_simp) ?_ (fun w' hS => ?_) ?_
          rotate_left
          (go_simp
           rfl)
          refine env_on HSZ H22.out H10.out (by first | rfl | go_simp) ?_ (fun w' hS => ?_) ?_
          rotate_left
          (have h := (hS.cell (p := ⟨g, 0, none⟩) lgr).trans z0
           go_simp
           rfl)
          refine env_on HSZ H23.out H10.out (by first | rfl | go_simp) ?_ (fun w' hS => ?_) ?_
          rotate_left
          (go_simp
           rfl)
          refine env_on HSZ H24.out H10.out (by first | rfl | go_simp) ?_ (fun w' hS => ?_) ?_
          rotate_left
          (go_simp
           rfl)
          refine env_yes HSZ H25.out ?_ (fun w' hS => ?_) ?_
          rotate_left
          (go_simp
           rfl)
          refine env_end ?_
          have hfr := HFR.out
          clear HFR HSZ H0 H1 H2 H3 H4 H5 H6 H7 H8 H9 H10 H11 H12 H13 H14 H15 H16 H17 H18 H19 H20 H21 H22 H23 H24 H25 x_0
          subst hfr
          simp only [putAll, Act.put, List.setIfInBounds_toArray, List.set_cons_succ, List.set_cons_zero]
          have z3d : wr.drew.cell? ⟨g, 3, none⟩ = some (.int .i64 pk) := z3
          go_wp2_with fail
          refine (iPack base g win pk s' _ (show LkAt wr.drew base g 61 win s' from ⟨_, _, _, HV'.out.below (Below.refl _ _).drew⟩) (by rw [hgn.out]; omega) (by rw [hgn.out]; omega) hok.out.texts hok.out.way).mono ?_
          rintro e w5 ⟨rfl, hk5, hb5⟩
          obtain ⟨vg5, vt5, vw5, hv5⟩ := hk5
          have hsame := packK_given pk s'
          have q3 := hv5.blk.cell 3
          have q3f := hv5.blk.free 3
          simp only [List.getElem?_cons_zero, List.getElem?_cons_succ] at q3
          rw [hsame.2.2.1, ← HPE.out] at q3
          have lg5 : g < w5.heap.size := hv5.blk.lt
          have HS5 : Aside (LkAt (w5.setCell ⟨g, 3, none⟩ (.int .i64 ((pk : Int) + 1))) base g 61 win (stepK s')) := ⟨by
            have h := hv5.setInts (packK pk s').acked (pk + 1) (hv5.blk.set 3 (.int .i64 ((pk : Int) + 1))) (fun b hb hg => heap_far hg)
            unfold stepK
            rw [← HPE.out]
            exact ⟨_, _, _, h⟩⟩
          have HB5 : Aside (Below base w (w5.setCell ⟨g, 3, none⟩ (.int .i64 ((pk : Int) + 1)))) := ⟨(hbz.out.drew.trans hb5).setCell hv5.hb _⟩
          have hm5 : Aside (natAt (w5.setCell ⟨g, 3, none⟩ (.int .i64 ((pk : Int) + 1))) g 3 = pk + 1) := ⟨natAt_of (n := pk + 1) (World.cell?_setCell_same _ _ _ q3)⟩
          clear hv5 hb5 hsame z0 z1 z2 z3 z3d hr9 hok hbz
          go_wp2_with fail
          go_roundw
          case rel => exact ⟨stepK s', HS5, HB5, HGO, HOK2, ⟨by rw [stepK_given]; exact hgn.out⟩⟩
          case measure => rw [hm5.out, hmz.out]; omega
        · have HST : Aside (s9 = s') := ⟨by rw [hr9.out]; exact fillK_stop (by rw [← HPE.out, ← HAE.out]; omega)⟩
          have c2n : (ak : Int) + win ≤ pk := by omega
          have c2m : ak + win ≤ pk := by omega
          go_wp2_with fail
          refine region_env [(0, true), (1, true), (2, true), (3, true), (4, true), (5, true), (6, true), (7, true), (8, true), (9, true), (10, true), (11, true), (12, true), (13, true), (14, true), (15, true), (16, true), (17, true), (18, true), (19, true), (20, true), (21, true), (22, true), (23, true), (24, true), (25, true)] (fun w' => Below wr.heap.size wr w') 173 rfl (by kernel_rfl) (by kernel_rfl) (fun _ _ d _ _ h => by cases d <;> exact h) ((Below.refl _ _).drew) (fun ops fr HFR HSZ hl => ?_)
          have hl_0 := ops_start hl
          clear hl
          obtain ⟨H0, hl_1⟩ := ops_next 0 1 rfl hl_0
          clear hl_0
          obtain ⟨H1, hl_2⟩ := ops_next 1 2 rfl hl_1
          clear hl_1
          obtain ⟨H2, hl_3⟩ := ops_next 2 3 rfl hl_2
          clear hl_2
          obtain ⟨H3, hl_4⟩ := ops_next 3 4 rfl hl_3
          clear hl_3
          obtain ⟨H4, hl_5⟩ := ops_next 4 5 rfl hl_4
          clear hl_4
          obtain ⟨H5, hl_6⟩ := ops_next 5 6 rfl hl_5
          clear hl_5
          obtain ⟨H6, hl_7⟩ := ops_next 6 7 rfl hl_6
          clear hl_6
          obtain ⟨H7, hl_8⟩ := ops_next 7 8 rfl hl_7
          clear hl_7
          obtain ⟨H8, hl_9⟩ := ops_next 8 9 rfl hl_8
          clear hl_8
          obtain ⟨H9, hl_10⟩ := ops_next 9 10 rfl hl_9
          clear hl_9
          obtain ⟨H10, hl_11⟩ := ops_next 10 11 rfl hl_10
          clear hl_10
          obtain ⟨H11, hl_12⟩ := ops_next 11 12 rfl hl_11
          clear hl_11
          obtain ⟨H12, hl_13⟩ := ops_next 12 13 rfl hl_12
          clear hl_12
          obtain ⟨H13, hl_14⟩ := ops_next 13 14 rfl hl_13
          clear hl_13
          obtain ⟨H14, hl_15⟩ := ops_next 14 15 rfl hl_14
          clear hl_14
          obtain ⟨H15, hl_16⟩ := ops_next 15 16 rfl hl_15
          clear hl_15
          obtain ⟨H16, hl_17⟩ := ops_next 16 17 rfl hl_16
          clear hl_16
          obtain ⟨H17, hl_18⟩ := ops_next 17 18 rfl hl_17
          clear hl_17
          obtain ⟨H18, hl_19⟩ := ops_next 18 19 rfl hl_18
          clear hl_18
          obtain ⟨H19, hl_20⟩ := ops_next 19 20 rfl hl_19
          clear hl_19
          obtain ⟨H20, hl_21⟩ := ops_next 20 21 rfl hl_20
          clear hl_20
          obtain ⟨H21, hl_22⟩ := ops_next 21 22 rfl hl_21
          clear hl_21
          obtain ⟨H22, hl_23⟩ := ops_next 22 23 rfl hl_22
          clear hl_22
          obtain ⟨H23, hl_24⟩ := ops_next 23 24 rfl hl_23
          clear hl_23
          obtain ⟨H24, hl_25⟩ := ops_next 24 25 rfl hl_24
          clear hl_24
          obtain ⟨H25, hl_26⟩ := ops_next 25 26 rfl hl_25
          clear hl_25
          clear hl_26
          have x_0 : ext fr 0 = _ := congrArg (fun a => Act.eval a (.tmp 0)) HFR.out
          conv at x_0 => rhs; simp only [Act.eval, Array.getD_eq_getD_getElem?, List.getElem?_toArray, List.getElem?_cons_succ, List.getElem?_cons_zero, Option.getD_some]
          refine env_yes HSZ H0.out ?_ (fun w' hS => ?_) ?_
          rotate_left
          (go_simp
           rfl)
          refine env_yes HSZ H1.out ?_ (fun w' hS => ?_) ?_
          rotate_left
          (go_simp
           rfl)
          refine env_yes HSZ H2.out ?_ (fun w' hS => ?_) ?_
          rotate_left
          (go_simp
           rfl)
          refine env_yes HSZ H3.out ?_ (fun w' hS => ?_) ?_
          rotate_left
          (have h := (hS.cell (p := ⟨g, 3, none⟩) lgr).trans z3
           go_simp
           rfl)
          refine env_yes HSZ H4.out ?_ (fun w' hS => ?_) ?_
          rotate_left
          (go_simp
           rfl)
          refine env_yes HSZ H5.out ?_ (fun w' hS => ?_) ?_
          rotate_left
          (go_simp
           rfl)
          refine env_yes HSZ H6.out ?_ (fun w' hS => ?_) ?_
          rotate_left
          (go_simp
           rfl)
          refine env_yes HSZ H7.out ?_ (fun w' hS => ?_) ?_
          rotate_left
          (have h := (hS.cell (p := ⟨g, 1, none⟩) lgr).trans z1
           go_simp
           rfl)
          refine env_yes HSZ H8.out ?_ (fun w' hS => ?_) ?_
          rotate_left
          (go_simp
           rfl)
          refine env_yes HSZ H9.out ?_ (fun w' hS => ?_) ?_
          rotate_left
          (go_simp
           rfl)
          refine env_yes HSZ H10.out ?_ (fun w' hS => ?_) ?_
          rotate_left
          (go_simp
           rfl)
          refine env_on HSZ H11.out H10.out (by first | rfl | go_simp) ?_ (fun w' hS => ?_) ?_
          rotate_left
          (go_simp
           rfl)
          refine env_on HSZ H12.out H10.out (by first | rfl | go_simp) ?_ (fun w' hS => ?_) ?_
          rotate_left
          (go_simp
           rfl)
          refine env_on HSZ H13.out H10.out (by first | rfl | go_simp) ?_ (fun w' hS => ?_) ?_
          rotate_left
          (go_simp
           rfl)
          refine env_on HSZ H14.out H10.out (by first | rfl | go_simp) ?_ (fun w' hS => ?_) ?_
          rotate_left
          (have h := (hS.cell (p := ⟨g, 3, none⟩) lgr).trans z3
           go_simp
           rfl)
          refine env_on HSZ H15.out H10.out (by first | rfl | go_simp) ?_ (fun w' hS => ?_) ?_
          rotate_left
          (go_simp
           rfl)
          refine env_on HSZ H16.out H10.out (by first | rfl | go_simp) ?_ (fun w' hS => ?_) ?_
          rotate_left
          (go_simp
           rfl)
          refine env_on HSZ H17.out H10.out (by first | rfl | go_simp) ?_ (fun w' hS => ?_) ?_
          rotate_left
          (go_simp
           rfl)
          refine env_on HSZ H18.out H10.out (by first | rfl | go_simp) ?_ (fun w' hS => ?_) ?_
          rotate_left
          (have h := (hS.cell (p := ⟨g, 2, none⟩) lgr).trans z2
           go_simp
           rfl)
          refine env_on HSZ H19.out H10.out (by first | rfl | go_simp) ?_ (fun w' hS => ?_) ?_
          rotate_left
          (go_simp
           rfl)
          refine env_on HSZ H20.out H10.out (by first | rfl | go_simp) ?_ (fun w' hS => ?_) ?_
          rotate_left
          (go_simp
           rfl)
          refine env_on HSZ H21.out H10.out (by first | rfl | go_simp) ?_ (fun w' hS => ?_) ?_
          rotate_left
          (go_simp
           rfl)
          refine env_on HSZ H22.out H10.out (by first | rfl | go_simp) ?_ (fun w' hS => ?_) ?_
          rotate_left
          (have h := (hS.cell (p := ⟨g, 0, none⟩) lgr).trans z0
           go_simp
           rfl)
          refine env_on HSZ H23.out H10.out (by first | rfl | go_simp) ?_ (fun w' hS => ?_) ?_
          rotate_left
          (go_simp
           rfl)
          refine env_on HSZ H24.out H10.out (by first | rfl | go_simp) ?_ (fun w' hS => ?_) ?_
          rotate_left
          (go_simp
           rfl)
          refine env_yes HSZ H25.out ?_ (fun w' hS => ?_) ?_
          rotate_left
          (go_simp
           rfl)
          refine env_end ?_
          have hfr := HFR.out
          clear HFR HSZ H0 H1 H2 H3 H4 H5 H6 H7 H8 H9 H10 H11 H12 H13 H14 H15 H16 H17 H18 H19 H20 H21 H22 H23 H24 H25 x_0
          subst hfr
          simp only [putAll, Act.put, List.setIfInBounds_toArray, List.set_cons_succ, List.set_cons_zero]
          go_wp2_with fail
          go_end0
          exact ⟨rfl, by rw [HST.out]; exact ⟨_, _, _, HV'.out.below (Below.refl _ _).drew⟩, hbz.out.drew⟩
      · have HST : Aside (s9 = s') := ⟨by rw [hr9.out]; exact fillK_stop (by rw [← HPE.out, hgn.out]; omega)⟩
        have c1n : (N9 : Int) ≤ pk := by omega
        have c1m : N9 ≤ pk := by omega
        go_wp2_with fail
        refine region_env [(0, true), (1, true), (2, true), (3, true), (4, true), (5, true), (6, true), (7, true), (8, true), (9, true), (10, true), (11, true), (12, true), (13, true), (14, true), (15, true), (16, true), (17, true), (18, true), (19, true), (20, true), (21, true), (22, true), (23, true), (24, true), (25, true)] (fun w' => Below wr.heap.size wr w') 173 rfl (by kernel_rfl) (by kernel_rfl) (fun _ _ d _ _ h => by cases d <;> exact h) ((Below.refl _ _).drew) (fun ops fr HFR HSZ hl => ?_)
        have hl_0 := ops_start hl
        clear hl
        obtain ⟨H0, hl_1⟩ := ops_next 0 1 rfl hl_0
        clear hl_0
        obtain ⟨H1, hl_2⟩ := ops_next 1 2 rfl hl_1
        clear hl_1
        obtain ⟨H2, hl_3⟩ := ops_next 2 3 rfl hl_2
        clear hl_2
        obtain ⟨H3, hl_4⟩ := ops_next 3 4 rfl hl_3
        clear hl_3
        obtain ⟨H4, hl_5⟩ := ops_next 4 5 rfl hl_4
        clear hl_4
        obtain ⟨H5, hl_6⟩ := ops_next 5 6 rfl hl_5
        clear hl_5
        obtain ⟨H6, hl_7⟩ := ops_next 6 7 rfl hl_6
        clear hl_6
        obtain ⟨H7, hl_8⟩ := ops_next 7 8 rfl hl_7
        clear hl_7
        obtain ⟨H8, hl_9⟩ := ops_next 8 9 rfl hl_8
        clear hl_8
        obtain ⟨H9, hl_10⟩ := ops_next 9 10 rfl hl_9
        clear hl_9
        obtain ⟨H10, hl_11⟩ := ops_next 10 11 rfl hl_10
        clear hl_10
        obtain ⟨H11, hl_12⟩ := ops_next 11 12 rfl hl_11
        clear hl_11
        obtain ⟨H12, hl_13⟩ := ops_next 12 13 rfl hl_12
        clear hl_12
        obtain ⟨H13, hl_14⟩ := ops_next 13 14 rfl hl_13
        clear hl_13
        obtain ⟨H14, hl_15⟩ := ops_next 14 15 rfl hl_14
        clear hl_14
        obtain ⟨H15, hl_16⟩ := ops_next 15 16 rfl hl_15
        clear hl_15
        obtain ⟨H16, hl_17⟩ := ops_next 16 17 rfl hl_16
        clear hl_16
        obtain ⟨H17, hl_18⟩ := ops_next 17 18 rfl hl_17
        clear hl_17
        obtain ⟨H18, hl_19⟩ := ops_next 18 19 rfl hl_18
        clear hl_18
        obtain ⟨H19, hl_20⟩ := ops_next 19 20 rfl hl_19
        clear hl_19
        obtain ⟨H20, hl_21⟩ := ops_next 20 21 rfl hl_20
        clear hl_20
        obtain ⟨H21, hl_22⟩ := ops_next 21 22 rfl hl_21
        clear hl_21
        obtain ⟨H22, hl_23⟩ := ops_next 22 23 rfl hl_22
        clear hl_22
        obtain ⟨H23, hl_24⟩ := ops_next 23 24 rfl hl_23
        clear hl_23
        obtain ⟨H24, hl_25⟩ := ops_next 24 25 rfl hl_24
        clear hl_24
        obtain ⟨H25, hl_26⟩ := ops_next 25 26 rfl hl_25
        clear hl_25
        clear hl_26
        have x_0 : ext fr 0 = _ := congrArg (fun a => Act.eval a (.tmp 0)) HFR.out
        conv at x_0 => rhs; simp only [Act.eval, Array.getD_eq_getD_getElem?, List.getElem?_toArray, List.getElem?_cons_succ, List.getElem?_cons_zero, Option.getD_some]
        refine env_yes HSZ H0.out ?_ (fun w' hS => ?_) ?_
        rotate_left
        (go_simp
         rfl)
        refine env_yes HSZ H1.out ?_ (fun w' hS => ?_) ?_
        rotate_left
        (go_simp
         rfl)
        refine env_yes HSZ H2.out ?_ (fun w' hS => ?_) ?_
        rotate_left
        (go_simp
         rfl)
        refine env_yes HSZ H3.out ?_ (fun w' hS => ?_) ?_
        rotate_left
        (have h := (hS.cell (p := ⟨g, 3, none⟩) lgr).trans z3
         go_simp
         rfl)
        refine env_yes HSZ H4.out ?_ (fun w' hS => ?_) ?_
        rotate_left
        (go_simp
         rfl)
        refine env_yes HSZ H5.out ?_ (fun w' hS => ?_) ?_
        rotate_left
        (go_simp
         rfl)
        refine env_yes HSZ H6.out ?_ (fun w' hS => ?_) ?_
        rotate_left
        (go_simp
         rfl)
        refine env_yes HSZ H7.out ?_ (fun w' hS => ?_) ?_
        rotate_left
        (have h := (hS.cell (p := ⟨g, 1, none⟩) lgr).trans z1
         go_simp
         rfl)
        refine env_yes HSZ H8.out ?_ (fun w' hS => ?_) ?_
        rotate_left
        (go_simp
         rfl)
        refine env_yes HSZ H9.out ?_ (fun w' hS => ?_) ?_
        rotate_left
        (go_simp
         rfl)
        refine env_yes HSZ H10.out ?_ (fun w' hS => ?_) ?_
        rotate_left
        (go_simp
         rfl)
        refine env_off HSZ H11.out H10.out (by first | rfl | go_simp) ?_
        refine env_off HSZ H12.out H10.out (by first | rfl | go_simp) ?_
        refine env_off HSZ H13.out H10.out (by first | rfl | go_simp) ?_
        refine env_off HSZ H14.out H10.out (by first | rfl | go_simp) ?_
        refine env_off HSZ H15.out H10.out (by first | rfl | go_simp) ?_
        refine env_off HSZ H16.out H10.out (by first | rfl | go_simp) ?_
        refine env_off HSZ H17.out H10.out (by first | rfl | go_simp) ?_
        refine env_off HSZ H18.out H10.out (by first | rfl | go_simp) ?_
        refine env_off HSZ H19.out H10.out (by first | rfl | go_simp) ?_
        refine env_off HSZ H20.out H10.out (by first | rfl | go_simp) ?_
        refine env_off HSZ H21.out H10.out (by first | rfl | go_simp) ?_
        refine env_off HSZ H22.out H10.out (by first | rfl | go_simp) ?_
        refine env_off HSZ H23.out H10.out (by first | rfl | go_simp) ?_
        refine env_off HSZ H24.out H10.out (by first | rfl | go_simp) ?_
        refine env_yes HSZ H25.out ?_ (fun w' hS => ?_) ?_
        rotate_left
        (go_simp
         rfl)
        refine env_end ?_
        have hfr := HFR.out
        clear HFR HSZ H0 H1 H2 H3 H4 H5 H6 H7 H8 H9 H10 H11 H12 H13 H14 H15 H16 H17 H18 H19 H20 H21 H22 H23 H24 H25 x_0
        subst hfr
        simp only [putAll, Act.put, List.setIfInBounds_toArray, List.set_cons_succ, List.set_cons_zero]
        go_wp2_with fail
        go_end0
        exact ⟨rfl, by rw [HST.out]; exact ⟨_, _, _, HV'.out.below (Below.refl _ _).drew⟩, hbz.out.drew⟩
set_option maxRecDepth 100000 in
set_option maxHeartbeats 16000000 in
theorem sAct3 (base g win KK : Nat) (s : Lk) (n : Int) (t : ByteArray) (w : World) (h : LkAt w base g 57 win s) (ok : LkOK KK s) (okA : LkOK KK (actK 3 n.toNat t s)) (hk : KK ≤ 1000000) (hwin : win ≤ 16) (hn0 : 0 ≤ n) (hn1 : n ≤ 1000000000) :
    Calls Try.prog 23 #[.pointer (some ⟨g, 0, none⟩), .agg #[.int .i64 3, .int .i64 n, .string t]] w fun e w' => e = .returned (.tuple #[]) ∧ LkAt w' base g 57 win (turnK win (3, n, t) s) ∧ Below base w w' := by
  obtain ⟨m, rfl⟩ := Int.eq_ofNat_of_zero_le hn0
  have hm9 : m ≤ 1000000000 := by omega
  obtain ⟨vg, vt, vw, hv⟩ := h
  obtain ⟨A, cap, rfl, hcap, -⟩ := own_shape hv.og
  obtain ⟨B, cB, rfl, hcB, -⟩ := own_shape hv.ow
  have lg : g < w.heap.size := hv.blk.lt
  have HW := Aside.mk hv
  obtain ⟨s9, hs9⟩ : ∃ x, x = turnK win (3, (m : Int), t) s := ⟨_, rfl⟩
  obtain ⟨sA, hsA⟩ : ∃ x, x = actK 3 (m : Int).toNat t s := ⟨_, rfl⟩
  have HR : Aside (s9 = fillK win (sA.given.length - sA.packed) sA) := ⟨by rw [hs9, hsA]; rfl⟩
  have HSA := Aside.mk hsA
  rw [← hs9]
  rw [← hsA] at okA
  have OKA := Aside.mk okA
  have OKS := Aside.mk ok
  have hgl : s.given.length ≤ KK := ok.given
  have hwl : s.way.length ≤ 100 := ok.way
  have hpl : s.packed ≤ s.given.length := ok.packed
  have hal : s.acked ≤ s.packed := ok.acked
  clear hs9 hsA okA ok
  obtain ⟨ng, hng⟩ : ∃ x, x = s.given.length := ⟨_, rfl⟩
  obtain ⟨nw, hnw⟩ : ∃ x, x = s.way.length := ⟨_, rfl⟩
  obtain ⟨pk0, hpk0⟩ : ∃ x, x = s.packed := ⟨_, rfl⟩
  obtain ⟨ak0, hak0⟩ : ∃ x, x = s.acked := ⟨_, rfl⟩
  have HNG := Aside.mk hng
  have HNW := Aside.mk hnw
  have HPK0 := Aside.mk hpk0
  have HAK0 := Aside.mk hak0
  have y1 := hv.blk.cell 1
  have y2 := hv.blk.cell 2
  have y3 := hv.blk.cell 3
  have y5 := hv.blk.cell 5
  simp only [List.getElem?_cons_zero, List.getElem?_cons_succ] at y1 y2 y3 y5
  rw [← hng] at y1 hgl hcap hpl
  rw [← hnw] at y5 hwl hcB
  rw [← hpk0] at y3 hpl hal
  rw [← hak0] at y2 hal
  clear hv hng hnw hpk0 hak0
  by_cases hh : m < nw
  · have hmn : (m : Int) < nw := by omega
    have hml : m < s.way.length := by rw [← HNW.out]; exact hh
    obtain ⟨b, rfl, hbb, hbl, -, -⟩ := own_addr HW.out.ow (by omega)
    obtain ⟨p1, p2, hp⟩ : ∃ p1 p2, wayAt m s = (p1, p2) := ⟨_, _, rfl⟩
    have HP := Aside.mk hp
    have HEL : Aside (∀ w', LkV w' base g 57 win s (.slice A s.given.length cap) vt (.slice (some ⟨b, 0, none⟩) s.way.length cB) → w'.cell? ⟨b, m * 2, none⟩ = some (.bool p1) ∧ w'.cell? ⟨b, m * 2 + 1, none⟩ = some (.string p2)) := ⟨fun w' hv' => by
      have hp' : s.way[m] = (p1, p2) := by rw [← wayAt_eq hml]; exact hp
      have hc := hv'.ow.cells (g := b) rfl
      have c0 := hc (m * 2) (.bool p1) (by rw [show m * 2 = m * 2 + 0 by omega, cpk_at s.way m 0 hml (by omega), hp']; rfl)
      have c1 := hc (m * 2 + 1) (.string p2) (by rw [cpk_at s.way m 1 hml (by omega), hp']; rfl)
      rw [add_plain] at c0 c1
      exact ⟨c0, c1⟩⟩
    have HML := Aside.mk hml
    clear hp hml
    go_enter Try.func23, Try.ntmps23
    go_wp2_with fail
    have bel : Below w.heap.size w (w.alloc (.cells #[.int .i64 3, .int .i64 (m : Int), .string t] 34)) := by go_grown
    have HV := Aside.mk (HW.out.below bel)
    have K1 := Aside.mk (Blk.new w 34 [.int .i64 3, .int .i64 (m : Int), .string t])
    have BB : Aside (Below base w (w.alloc (.cells #[.int .i64 3, .int .i64 (m : Int), .string t] 34))) := ⟨bel.mono HW.out.lt⟩
    obtain ⟨w1, hw1⟩ : ∃ x, x = w.alloc (.cells #[.int .i64 3, .int .i64 (m : Int), .string t] 34) := ⟨_, rfl⟩
    obtain ⟨gp, hgp⟩ : ∃ x, x = w.heap.size := ⟨_, rfl⟩
    have hgp1 : w1.heap.size = gp + 1 := by rw [hw1, hgp]; simp
    have HGP := Aside.mk hgp
    rw [← hw1] at HV K1 BB ⊢
    rw [← hgp] at K1 lg ⊢
    clear bel hw1 hgp y1 y2 y3 y5
    have y1 : w1.cell? ⟨g, 1, none⟩ = some (.slice A ng cap) := by have h := HV.out.blk.cell 1; rw [HNG.out]; exact h
    have y2 : w1.cell? ⟨g, 2, none⟩ = some (.int .i64 ak0) := by have h := HV.out.blk.cell 2; rw [HAK0.out]; exact h
    have y3 : w1.cell? ⟨g, 3, none⟩ = some (.int .i64 pk0) := by have h := HV.out.blk.cell 3; rw [HPK0.out]; exact h
    have y5 : w1.cell? ⟨g, 5, none⟩ = some (.slice (some ⟨b, 0, none⟩) nw cB) := by have h := HV.out.blk.cell 5; rw [HNW.out]; exact h
    have a0 : w1.cell? ⟨gp, 0, none⟩ = some (.int .i64 3) := K1.out.cell 0
    have a1 : w1.cell? ⟨gp, 1, none⟩ = some (.int .i64 (m : Int)) := K1.out.cell 1
    have a2 : w1.cell? ⟨gp, 2, none⟩ = some (.string t) := K1.out.cell 2
    have lp : gp < w1.heap.size := K1.out.lt
    have lg1 : g < w1.heap.size := HV.out.blk.lt
    refine region_env [(0, true), (1, true), (2, true), (3, true), (4, true), (5, true), (6, true), (7, true), (8, true)] (fun w' => Below w1.heap.size w1 w') 164 rfl (by kernel_rfl) (by kernel_rfl) (fun _ _ d _ _ h => by cases d <;> exact h) ((Below.refl _ _).drew) (fun ops fr HFR HSZ hl => ?_)
    have hl_0 := ops_start hl
    clear hl
    obtain ⟨H0, hl_1⟩ := ops_next 0 1 rfl hl_0
    clear hl_0
    obtain ⟨H1, hl_2⟩ := ops_next 1 2 rfl hl_1
    clear hl_1
    obtain ⟨H2, hl_3⟩ := ops_next 2 3 rfl hl_2
    clear hl_2
    obtain ⟨H3, hl_4⟩ := ops_next 3 4 rfl hl_3
    clear hl_3
    obtain ⟨H4, hl_5⟩ := ops_next 4 5 rfl hl_4
    clear hl_4
    obtain ⟨H5, hl_6⟩ := ops_next 5 6 rfl hl_5
    clear hl_5
    obtain ⟨H6, hl_7⟩ := ops_next 6 7 rfl hl_6
    clear hl_6
    obtain ⟨H7, hl_8⟩ := ops_next 7 8 rfl hl_7
    clear hl_7
    obtain ⟨H8, hl_9⟩ := ops_next 8 9 rfl hl_8
    clear hl_8
    clear hl_9
    have x_3 : ext fr 3 = _ := congrArg (fun a => Act.eval a (.tmp 3)) HFR.out
    conv at x_3 => rhs; simp only [Act.eval, Array.getD_eq_getD_getElem?, List.getElem?_toArray, List.getElem?_cons_succ, List.getElem?_cons_zero, Option.getD_some]
    have x_0 : ext fr 0 = _ := congrArg (fun a => Act.eval a (.tmp 0)) HFR.out
    conv at x_0 => rhs; simp only [Act.eval, Array.getD_eq_getD_getElem?, List.getElem?_toArray, List.getElem?_cons_succ, List.getElem?_cons_zero, Option.getD_some]
    refine env_yes HSZ H0.out ?_ (fun w' hS => ?_) ?_
    rotate_left
    (go_simp
     rfl)
    refine env_yes HSZ H1.out ?_ (fun w' hS => ?_) ?_
    rotate_left
    (have h := (hS.cell (p := ⟨gp, 1, none⟩) lp).trans a1
     go_simp
     rfl)
    refine env_yes HSZ H2.out ?_ (fun w' hS => ?_) ?_
    rotate_left
    (go_simp
     rfl)
    refine env_yes HSZ H3.out ?_ (fun w' hS => ?_) ?_
    rotate_left
    (go_simp
     rfl)
    refine env_yes HSZ H4.out ?_ (fun w' hS => ?_) ?_
    rotate_left
    (go_simp
     rfl)
    refine env_yes HSZ H5.out ?_ (fun w' hS => ?_) ?_
    rotate_left
    (have h := (hS.cell (p := ⟨g, 5, none⟩) lg1).trans y5
     go_simp
     rfl)
    refine env_yes HSZ H6.out ?_ (fun w' hS => ?_) ?_
    rotate_left
    (go_simp
     rfl)
    refine env_yes HSZ H7.out ?_ (fun w' hS => ?_) ?_
    rotate_left
    (go_simp
     rfl)
    refine env_yes HSZ H8.out ?_ (fun w' hS => ?_) ?_
    rotate_left
    (go_simp
     rfl)
    refine env_end ?_
    have hfr := HFR.out
    clear HFR HSZ H0 H1 H2 H3 H4 H5 H6 H7 H8 x_3 x_0
    subst hfr
    simp only [putAll, Act.put, List.setIfInBounds_toArray, List.set_cons_succ, List.set_cons_zero]
    obtain ⟨w0, hw0⟩ : ∃ x, x = w1 := ⟨_, rfl⟩
    have HV0 := Aside.mk (HV.out.below (Below.refl _ _).drew)
    have K10 := Aside.mk K1.out.drew
    have BB0 := Aside.mk BB.out.drew
    have hgp2 : w1.drew.heap.size = gp + 1 := hgp1
    clear y1 y2 y3 y5 a0 a1 a2 lp lg1 HV K1 BB hgp1 hw0
    obtain ⟨w2, hw2⟩ : ∃ x, x = w1.drew := ⟨_, rfl⟩
    rw [← hw2] at HV0 K10 BB0 hgp2 ⊢
    clear hw2
    obtain ⟨w1, hw1⟩ : ∃ x, x = w2 := ⟨_, rfl⟩
    rw [← hw1] at HV0 K10 BB0 hgp2 ⊢
    have HV := HV0
    have K1 := K10
    have BB := BB0
    have hgp1 := hgp2
    clear hw1 HV0 K10 BB0 hgp2
    have y1 : w1.cell? ⟨g, 1, none⟩ = some (.slice A ng cap) := by have h := HV.out.blk.cell 1; rw [HNG.out]; exact h
    have y2 : w1.cell? ⟨g, 2, none⟩ = some (.int .i64 ak0) := by have h := HV.out.blk.cell 2; rw [HAK0.out]; exact h
    have y3 : w1.cell? ⟨g, 3, none⟩ = some (.int .i64 pk0) := by have h := HV.out.blk.cell 3; rw [HPK0.out]; exact h
    have y5 : w1.cell? ⟨g, 5, none⟩ = some (.slice (some ⟨b, 0, none⟩) nw cB) := by have h := HV.out.blk.cell 5; rw [HNW.out]; exact h
    have a0 : w1.cell? ⟨gp, 0, none⟩ = some (.int .i64 3) := K1.out.cell 0
    have a1 : w1.cell? ⟨gp, 1, none⟩ = some (.int .i64 (m : Int)) := K1.out.cell 1
    have a2 : w1.cell? ⟨gp, 2, none⟩ = some (.string t) := K1.out.cell 2
    have lp : gp < w1.heap.size := K1.out.lt
    have lg1 : g < w1.heap.size := HV.out.blk.lt
    go_wp2_with fail
    obtain ⟨e0, e1⟩ := HEL.out w1 HV.out
    clear e0 e1
    refine (sOut base g win m s _ ⟨_, _, _, HV.out⟩ HML.out (by rw [← HNW.out]; omega)).mono ?_
    rintro e w5 ⟨rfl, hk5, hb5⟩
    have HK5 := Aside.mk hk5
    have HB5 : Aside (Below base w w5) := ⟨BB.out.trans hb5⟩
    rw [HP.out]
    clear hk5 hb5 y1 y2 y3 y5 a0 a1 a2
    go_wp2_with fail
    have okO : LkOK KK (outK m s) := OKS.out.out
    refine (sHear base g win (outK m s) (p1, p2) _ HK5.out okO.way (by have := okO.taken; omega) okO.acked (by have := okO.packed; have := okO.given; omega) (by have h := (OKS.out.data _ (wayAt_mem HML.out)).2; rw [HP.out] at h; exact Nat.le_trans h (by decide))).mono ?_
    rintro e w6 ⟨rfl, hk6, hb6⟩
    have EA : sA = arrK (p1, p2) (outK m s) := by rw [HSA.out, Int.toNat_natCast, actK_3, if_pos HML.out, HP.out]
    rw [← EA] at hk6
    have HZ := Aside.mk hk6
    have BZ : Aside (Below base w w6) := ⟨HB5.out.trans hb6⟩
    clear hk6 hb6 EA HK5 HB5 okO
    obtain ⟨N9, hN9⟩ : ∃ N, N = sA.given.length := ⟨_, rfl⟩
    have HN9 := Aside.mk hN9
    have hN9b : N9 ≤ 1000000 := by have := OKA.out.given; omega
    clear hN9
    go_wp2_with fail
    go_loopw [] (fun wr => ∃ s' : Lk, Aside (LkAt wr base g 57 win s') ∧ Aside (Below base w wr) ∧ Aside (s9 = fillK win (s'.given.length - s'.packed) s') ∧ Aside (LkOK KK s') ∧ Aside (s'.given.length = N9)) (fun wr => N9 - natAt wr g 3)
    case atStart => exact ⟨sA, HZ, BZ, HR, OKA, ⟨HN9.out.symm⟩⟩
    case round =>
      obtain ⟨s', hat, hbz, hr9, hok, hgn⟩ := hrel
      clear HZ BZ HR OKA
      obtain ⟨vg', vt', vw', hv'⟩ := hat.out
      obtain ⟨A', cap', rfl, hcap', -⟩ := own_shape hv'.og
      have HV' := Aside.mk hv'
      have z0 := hv'.blk.cell 0
      have z1 := hv'.blk.cell 1
      have z2 := hv'.blk.cell 2
      have z3 := hv'.blk.cell 3
      simp only [List.getElem?_cons_zero, List.getElem?_cons_succ] at z0 z1 z2 z3
      have lgr : g < wr.heap.size := hv'.blk.lt
      rw [hgn.out] at z1 hcap'
      have hpk : s'.packed ≤ N9 := by rw [← hgn.out]; exact hok.out.packed
      have hak : s'.acked ≤ s'.packed := hok.out.acked
      have hmz : Aside (natAt wr g 3 = s'.packed) := ⟨natAt_of z3⟩
      obtain ⟨pk, hpe⟩ : ∃ pk, pk = s'.packed := ⟨_, rfl⟩
      obtain ⟨ak, hae⟩ : ∃ ak, ak = s'.acked := ⟨_, rfl⟩
      have HPE := Aside.mk hpe
      have HAE := Aside.mk hae
      rw [← hpe] at z3 hpk hak hmz
      rw [← hae] at z2 hak
      have hwr : IntKind.i64.wrap ((ak : Int) + (win : Int)) = (ak : Int) + (win : Int) := by rw [IntKind.wrap_i64]; omega
      clear hv' hpe hae hat
      by_cases c1 : (pk : Int) < N9
      · by_cases c2 : (pk : Int) < (ak : Int) + win
        · have HGO : Aside (s9 = fillK win ((stepK s').given.length - (stepK s').packed) (stepK s')) := ⟨by rw [hr9.out]; exact fillK_go (by rw [hgn.out, ← HPE.out]; omega) (by rw [← HPE.out, ← HAE.out]; omega)⟩
          have HOK2 : Aside (LkOK KK (stepK s')) := ⟨hok.out.step (by rw [hgn.out, ← HPE.out]; omega)⟩
          go_wp2_with fail
          refine region_env [(0, true), (1, true), (2, true), (3, true), (4, true), (5, true), (6, true), (7, true), (8, true), (9, true), (10, true), (11, true), (12, true), (13, true), (14, true), (15, true), (16, true), (17, true), (18, true), (19, true), (20, true), (21, true), (22, true), (23, true), (24, true), (25, true)] (fun w' => Below wr.heap.size wr w') 164 rfl (by kernel_rfl) (by kernel_rfl) (fun _ _ d _ _ h => by cases d <;> exact h) ((Below.refl _ _).drew) (fun ops fr HFR HSZ hl => ?_)
          have hl_0 := ops_start hl
          clear hl
          obtain ⟨H0, hl_1⟩ := ops_next 0 1 rfl hl_0
          clear hl_0
          obtain ⟨H1, hl_2⟩ := ops_next 1 2 rfl hl_1
          clear hl_1
          obtain ⟨H2, hl_3⟩ := ops_next 2 3 rfl hl_2
          clear hl_2
          obtain ⟨H3, hl_4⟩ := ops_next 3 4 rfl hl_3
          clear hl_3
          obtain ⟨H4, hl_5⟩ := ops_next 4 5 rfl hl_4
          clear hl_4
          obtain ⟨H5, hl_6⟩ := ops_next 5 6 rfl hl_5
          clear hl_5
          obtain ⟨H6, hl_7⟩ := ops_next 6 7 rfl hl_6
          clear hl_6
          obtain ⟨H7, hl_8⟩ := ops_next 7 8 rfl hl_7
          clear hl_7
          obtain ⟨H8, hl_9⟩ := ops_next 8 9 rfl hl_8
          clear hl_8
          obtain ⟨H9, hl_10⟩ := ops_next 9 10 rfl hl_9
          clear hl_9
          obtain ⟨H10, hl_11⟩ := ops_next 10 11 rfl hl_10
          clear hl_10
          obtain ⟨H11, hl_12⟩ := ops_next 11 12 rfl hl_11
          clear hl_11
          obtain ⟨H12, hl_13⟩ := ops_next 12 13 rfl hl_12
          clear hl_12
          obtain ⟨H13, hl_14⟩ := ops_next 13 14 rfl hl_13
          clear hl_13
          obtain ⟨H14, hl_15⟩ := ops_next 14 15 rfl hl_14
          clear hl_14
          obtain ⟨H15, hl_16⟩ := ops_next 15 16 rfl hl_15
          clear hl_15
          obtain ⟨H16, hl_17⟩ := ops_next 16 17 rfl hl_16
          clear hl_16
          obtain ⟨H17, hl_18⟩ := ops_next 17 18 rfl hl_17
          clear hl_17
          obtain ⟨H18, hl_19⟩ := ops_next 18 19 rfl hl_18
          clear hl_18
          obtain ⟨H19, hl_20⟩ := ops_next 19 20 rfl hl_19
          clear hl_19
          obtain ⟨H20, hl_21⟩ := ops_next 20 21 rfl hl_20
          clear hl_20
          obtain ⟨H21, hl_22⟩ := ops_next 21 22 rfl hl_21
          clear hl_21
          obtain ⟨H22, hl_23⟩ := ops_next 22 23 rfl hl_22
          clear hl_22
          obtain ⟨H23, hl_24⟩ := ops_next 23 24 rfl hl_23
          clear hl_23
          obtain ⟨H24, hl_25⟩ := ops_next 24 25 rfl hl_24
          clear hl_24
          obtain ⟨H25, hl_26⟩ := ops_next 25 26 rfl hl_25
          clear hl_25
          clear hl_26
          have x_0 : ext fr 0 = _ := congrArg (fun a => Act.eval a (.tmp 0)) HFR.out
          conv at x_0 => rhs; simp only [Act.eval, Array.getD_eq_getD_getElem?, List.getElem?_toArray, List.getElem?_cons_succ, List.getElem?_cons_zero, Option.getD_some]
          refine env_yes HSZ H0.out ?_ (fun w' hS => ?_) ?_
          rotate_left
          (go_simp
           rfl)
          refine env_yes HSZ H1.out ?_ (fun w' hS => ?_) ?_
          rotate_left
          (go_simp
           rfl)
          refine env_yes HSZ H2.out ?_ (fun w' hS => ?_) ?_
          rotate_left
          (go_simp
           rfl)
          refine env_yes HSZ H3.out ?_ (fun w' hS => ?_) ?_
          rotate_left
          (have h := (hS.cell (p := ⟨g, 3, none⟩) lgr).trans z3
           go_simp
           rfl)
          refine env_yes HSZ H4.out ?_ (fun w' hS => ?_) ?_
          rotate_left
          (go_simp
           rfl)
          refine env_yes HSZ H5.out ?_ (fun w' hS => ?_) ?_
          rotate_left
          (go_simp
           rfl)
          refine env_yes HSZ H6.out ?_ (fun w' hS => ?_) ?_
          rotate_left
          (go_simp
           rfl)
          refine env_yes HSZ H7.out ?_ (fun w' hS => ?_) ?_
          rotate_left
          (have h := (hS.cell (p := ⟨g, 1, none⟩) lgr).trans z1
           go_simp
           rfl)
          refine env_yes HSZ H8.out ?_ (fun w' hS => ?_) ?_
          rotate_left
          (go_simp
           rfl)
          refine env_yes HSZ H9.out ?_ (fun w' hS => ?_) ?_
          rotate_left
          (go_simp
           rfl)
          refine env_yes HSZ H10.out ?_ (fun w' hS => ?_) ?_
          rotate_left
          (go_simp
           rfl)
          refine env_on HSZ H11.out H10.out (by first | rfl | go_simp) ?_ (fun w' hS => ?_) ?_
          rotate_left
          (go_simp
           rfl)
          refine env_on HSZ H12.out H10.out (by first | rfl | go_simp) ?_ (fun w' hS => ?_) ?_
          rotate_left
          (go_simp
           rfl)
          refine env_on HSZ H13.out H10.out (by first | rfl | go_simp) ?_ (fun w' hS => ?_) ?_
          rotate_left
          (go_simp
           rfl)
          refine env_on HSZ H14.out H10.out (by first | rfl | go_simp) ?_ (fun w' hS => ?_) ?_
          rotate_left
          (have h := (hS.cell (p := ⟨g, 3, none⟩) lgr).trans z3
           go_simp
           rfl)
          refine env_on HSZ H15.out H10.out (by first | rfl | go_simp) ?_ (fun w' hS => ?_) ?_
          rotate_left
          (go_simp
           rfl)
          refine env_on HSZ H16.out H10.out (by first | rfl | go_simp) ?_ (fun w' hS => ?_) ?_
          rotate_left
          (go_simp
           rfl)
          refine env_on HSZ H17.out H10.out (by first | rfl | go_simp) ?_ (fun w' hS => ?_) ?_
          rotate_left
          (go_simp
           rfl)
          refine env_on HSZ H18.out H10.out (by first | rfl | go_simp) ?_ (fun w' hS => ?_) ?_
          rotate_left
          (have h := (hS.cell (p := ⟨g, 2, none⟩) lgr).trans z2
           go_simp
           rfl)
          refine env_on HSZ H19.out H10.out (by first | rfl | go_simp) ?_ (fun w' hS => ?_) ?_
          rotate_left
          (go_simp
           rfl)
          refine env_on HSZ H20.out H10.out (by first | rfl | go_simp) ?_ (fun w' hS => ?_) ?_
          rotate_left
          (go_simp
           rfl)
          refine env_on HSZ H21.out H10.out (by first | rfl | go_simp) ?_ (fun w' hS => ?_) ?_
          rotate_left
          (go_simp
           rfl)
          refine env_on HSZ H22.out H10.out (by first | rfl | go_simp) ?_ (fun w' hS => ?_) ?_
          rotate_left
          (have h := (hS.cell (p := ⟨g, 0, none⟩) lgr).trans z0
           go_simp
           rfl)
          refine env_on HSZ H23.out H10.out (by first | rfl | go_simp) ?_ (fun w' hS => ?_) ?_
          rotate_left
          (go_simp
           rfl)
          refine env_on HSZ H24.out H10.out (by first | rfl | go_simp) ?_ (fun w' hS => ?_) ?_
          rotate_left
          (go_simp
           rfl)
          refine env_yes HSZ H25.out ?_ (fun w' hS => ?_) ?_
          rotate_left
          (go_simp
           rfl)
          refine env_end ?_
          have hfr := HFR.out
          clear HFR HSZ H0 H1 H2 H3 H4 H5 H6 H7 H8 H9 H10 H11 H12 H13 H14 H15 H16 H17 H18 H19 H20 H21 H22 H23 H24 H25 x_0
          subst hfr
          simp only [putAll, Act.put, List.setIfInBounds_toArray, List.set_cons_succ, List.set_cons_zero]
          have z3d : wr.drew.cell? ⟨g, 3, none⟩ = some (.int .i64 pk) := z3
          go_wp2_with fail
          refine (sPack base g win pk s' _ (show LkAt wr.drew base g 57 win s' from ⟨_, _, _, HV'.out.below (Below.refl _ _).drew⟩) (by rw [hgn.out]; omega) (by rw [hgn.out]; omega) hok.out.texts hok.out.way).mono ?_
          rintro e w5 ⟨rfl, hk5, hb5⟩
          obtain ⟨vg5, vt5, vw5, hv5⟩ := hk5
          have hsame := packK_given pk s'
          have q3 := hv5.blk.cell 3
          have q3f := hv5.blk.free 3
          simp only [List.getElem?_cons_zero, List.getElem?_cons_succ] at q3
          rw [hsame.2.2.1, ← HPE.out] at q3
          have lg5 : g < w5.heap.size := hv5.blk.lt
          have HS5 : Aside (LkAt (w5.setCell ⟨g, 3, none⟩ (.int .i64 ((pk : Int) + 1))) base g 57 win (stepK s')) := ⟨by
            have h := hv5.setInts (packK pk s').acked (pk + 1) (hv5.blk.set 3 (.int .i64 ((pk : Int) + 1))) (fun b hb hg => heap_far hg)
            unfold stepK
            rw [← HPE.out]
            exact ⟨_, _, _, h⟩⟩
          have HB5 : Aside (Below base w (w5.setCell ⟨g, 3, none⟩ (.int .i64 ((pk : Int) + 1)))) := ⟨(hbz.out.drew.trans hb5).setCell hv5.hb _⟩
          have hm5 : Aside (natAt (w5.setCell ⟨g, 3, none⟩ (.int .i64 ((pk : Int) + 1))) g 3 = pk + 1) := ⟨natAt_of (n := pk + 1) (World.cell?_setCell_same _ _ _ q3)⟩
          clear hv5 hb5 hsame z0 z1 z2 z3 z3d hr9 hok hbz
          go_wp2_with fail
          go_roundw
          case rel => exact ⟨stepK s', HS5, HB5, HGO, HOK2, ⟨by rw [stepK_given]; exact hgn.out⟩⟩
          case measure => rw [hm5.out, hmz.out]; omega
        · have HST : Aside (s9 = s') := ⟨by rw [hr9.out]; exact fillK_stop (by rw [← HPE.out, ← HAE.out]; omega)⟩
          have c2n : (ak : Int) + win ≤ pk := by omega
          have c2m : ak + win ≤ pk := by omega
          go_wp2_with fail
          refine region_env [(0, true), (1, true), (2, true), (3, true), (4, true), (5, true), (6, true), (7, true), (8, true), (9, true), (10, true), (11, true), (12, true), (13, true), (14, true), (15, true), (16, true), (17, true), (18, true), (19, true), (20, true), (21, true), (22, true), (23, true), (24, true), (25, true)] (fun w' => Below wr.heap.size wr w') 164 rfl (by kernel_rfl) (by kernel_rfl) (fun _ _ d _ _ h => by cases d <;> exact h) ((Below.refl _ _).drew) (fun ops fr HFR HSZ hl => ?_)
          have hl_0 := ops_start hl
          clear hl
          obtain ⟨H0, hl_1⟩ := ops_next 0 1 rfl hl_0
          clear hl_0
          obtain ⟨H1, hl_2⟩ := ops_next 1 2 rfl hl_1
          clear hl_1
          obtain ⟨H2, hl_3⟩ := ops_next 2 3 rfl hl_2
          clear hl_2
          obtain ⟨H3, hl_4⟩ := ops_next 3 4 rfl hl_3
          clear hl_3
          obtain ⟨H4, hl_5⟩ := ops_next 4 5 rfl hl_4
          clear hl_4
          obtain ⟨H5, hl_6⟩ := ops_next 5 6 rfl hl_5
          clear hl_5
          obtain ⟨H6, hl_7⟩ := ops_next 6 7 rfl hl_6
          clear hl_6
          obtain ⟨H7, hl_8⟩ := ops_next 7 8 rfl hl_7
          clear hl_7
          obtain ⟨H8, hl_9⟩ := ops_next 8 9 rfl hl_8
          clear hl_8
          obtain ⟨H9, hl_10⟩ := ops_next 9 10 rfl hl_9
          clear hl_9
          obtain ⟨H10, hl_11⟩ := ops_next 10 11 rfl hl_10
          clear hl_10
          obtain ⟨H11, hl_12⟩ := ops_next 11 12 rfl hl_11
          clear hl_11
          obtain ⟨H12, hl_13⟩ := ops_next 12 13 rfl hl_12
          clear hl_12
          obtain ⟨H13, hl_14⟩ := ops_next 13 14 rfl hl_13
          clear hl_13
          obtain ⟨H14, hl_15⟩ := ops_next 14 15 rfl hl_14
          clear hl_14
          obtain ⟨H15, hl_16⟩ := ops_next 15 16 rfl hl_15
          clear hl_15
          obtain ⟨H16, hl_17⟩ := ops_next 16 17 rfl hl_16
          clear hl_16
          obtain ⟨H17, hl_18⟩ := ops_next 17 18 rfl hl_17
          clear hl_17
          obtain ⟨H18, hl_19⟩ := ops_next 18 19 rfl hl_18
          clear hl_18
          obtain ⟨H19, hl_20⟩ := ops_next 19 20 rfl hl_19
          clear hl_19
          obtain ⟨H20, hl_21⟩ := ops_next 20 21 rfl hl_20
          clear hl_20
          obtain ⟨H21, hl_22⟩ := ops_next 21 22 rfl hl_21
          clear hl_21
          obtain ⟨H22, hl_23⟩ := ops_next 22 23 rfl hl_22
          clear hl_22
          obtain ⟨H23, hl_24⟩ := ops_next 23 24 rfl hl_23
          clear hl_23
          obtain ⟨H24, hl_25⟩ := ops_next 24 25 rfl hl_24
          clear hl_24
          obtain ⟨H25, hl_26⟩ := ops_next 25 26 rfl hl_25
          clear hl_25
          clear hl_26
          have x_0 : ext fr 0 = _ := congrArg (fun a => Act.eval a (.tmp 0)) HFR.out
          conv at x_0 => rhs; simp only [Act.eval, Array.getD_eq_getD_getElem?, List.getElem?_toArray, List.getElem?_cons_succ, List.getElem?_cons_zero, Option.getD_some]
          refine env_yes HSZ H0.out ?_ (fun w' hS => ?_) ?_
          rotate_left
          (go_simp
           rfl)
          refine env_yes HSZ H1.out ?_ (fun w' hS => ?_) ?_
          rotate_left
          (go_simp
           rfl)
          refine env_yes HSZ H2.out ?_ (fun w' hS => ?_) ?_
          rotate_left
          (go_simp
           rfl)
          refine env_yes HSZ H3.out ?_ (fun w' hS => ?_) ?_
          rotate_left
          (have h := (hS.cell (p := ⟨g, 3, none⟩) lgr).trans z3
           go_simp
           rfl)
          refine env_yes HSZ H4.out ?_ (fun w' hS => ?_) ?_
          rotate_left
          (go_simp
           rfl)
          refine env_yes HSZ H5.out ?_ (fun w' hS => ?_) ?_
          rotate_left
          (go_simp
           rfl)
          refine env_yes HSZ H6.out ?_ (fun w' hS => ?_) ?_
          rotate_left
          (go_simp
           rfl)
          refine env_yes HSZ H7.out ?_ (fun w' hS => ?_) ?_
          rotate_left
          (have h := (hS.cell (p := ⟨g, 1, none⟩) lgr).trans z1
           go_simp
           rfl)
          refine env_yes HSZ H8.out ?_ (fun w' hS => ?_) ?_
          rotate_left
          (go_simp
           rfl)
          refine env_yes HSZ H9.out ?_ (fun w' hS => ?_) ?_
          rotate_left
          (go_simp
           rfl)
          refine env_yes HSZ H10.out ?_ (fun w' hS => ?_) ?_
          rotate_left
          (go_simp
           rfl)
          refine env_on HSZ H11.out H10.out (by first | rfl | go_simp) ?_ (fun w' hS => ?_) ?_
          rotate_left
          (go_simp
           rfl)
          refine env_on HSZ H12.out H10.out (by first | rfl | go_simp) ?_ (fun w' hS => ?_) ?_
          rotate_left
          (go_simp
           rfl)
          refine env_on HSZ H13.out H10.out (by first | rfl | go_simp) ?_ (fun w' hS => ?_) ?_
          rotate_left
          (go_simp
           rfl)
          refine env_on HSZ H14.out H10.out (by first | rfl | go_simp) ?_ (fun w' hS => ?_) ?_
          rotate_left
          (have h := (hS.cell (p := ⟨g, 3, none⟩) lgr).trans z3
           go_simp
           rfl)
          refine env_on HSZ H15.out H10.out (by first | rfl | go_simp) ?_ (fun w' hS => ?_) ?_
          rotate_left
          (go_simp
           rfl)
          refine env_on HSZ H16.out H10.out (by first | rfl | go_simp) ?_ (fun w' hS => ?_) ?_
          rotate_left
          (go_simp
           rfl)
          refine env_on HSZ H17.out H10.out (by first | rfl | go_simp) ?_ (fun w' hS => ?_) ?_
          rotate_left
          (go_simp
           rfl)
          refine env_on HSZ H18.out H10.out (by first | rfl | go_simp) ?_ (fun w' hS => ?_) ?_
          rotate_left
          (have h := (hS.cell (p := ⟨g, 2, none⟩) lgr).trans z2
           go_simp
           rfl)
          refine env_on HSZ H19.out H10.out (by first | rfl | go_simp) ?_ (fun w' hS => ?_) ?_
          rotate_left
          (go_simp
           rfl)
          refine env_on HSZ H20.out H10.out (by first | rfl | go_simp) ?_ (fun w' hS => ?_) ?_
          rotate_left
          (go_simp
           rfl)
          refine env_on HSZ H21.out H10.out (by first | rfl | go_simp) ?_ (fun w' hS => ?_) ?_
          rotate_left
          (go_simp
           rfl)
          refine env_on HSZ H22.out H10.out (by first | rfl | go_simp) ?_ (fun w' hS => ?_) ?_
          rotate_left
          (have h := (hS.cell (p := ⟨g, 0, none⟩) lgr).trans z0
           go_simp
           rfl)
          refine env_on HSZ H23.out H10.out (by first | rfl | go_simp) ?_ (fun w' hS => ?_) ?_
          rotate_left
          (go_simp
           rfl)
          refine env_on HSZ H24.out H10.out (by first | rfl | go_simp) ?_ (fun w' hS => ?_) ?_
          rotate_left
          (go_simp
           rfl)
          refine env_yes HSZ H25.out ?_ (fun w' hS => ?_) ?_
          rotate_left
          (go_simp
           rfl)
          refine env_end ?_
          have hfr := HFR.out
          clear HFR HSZ H0 H1 H2 H3 H4 H5 H6 H7 H8 H9 H10 H11 H12 H13 H14 H15 H16 H17 H18 H19 H20 H21 H22 H23 H24 H25 x_0
          subst hfr
          simp only [putAll, Act.put, List.setIfInBounds_toArray, List.set_cons_succ, List.set_cons_zero]
          go_wp2_with fail
          go_end0
          exact ⟨rfl, by rw [HST.out]; exact ⟨_, _, _, HV'.out.below (Below.refl _ _).drew⟩, hbz.out.drew⟩
      · have HST : Aside (s9 = s') := ⟨by rw [hr9.out]; exact fillK_stop (by rw [← HPE.out, hgn.out]; omega)⟩
        have c1n : (N9 : Int) ≤ pk := by omega
        have c1m : N9 ≤ pk := by omega
        go_wp2_with fail
        refine region_env [(0, true), (1, true), (2, true), (3, true), (4, true), (5, true), (6, true), (7, true), (8, true), (9, true), (10, true), (11, true), (12, true), (13, true), (14, true), (15, true), (16, true), (17, true), (18, true), (19, true), (20, true), (21, true), (22, true), (23, true), (24, true), (25, true)] (fun w' => Below wr.heap.size wr w') 164 rfl (by kernel_rfl) (by kernel_rfl) (fun _ _ d _ _ h => by cases d <;> exact h) ((Below.refl _ _).drew) (fun ops fr HFR HSZ hl => ?_)
        have hl_0 := ops_start hl
        clear hl
        obtain ⟨H0, hl_1⟩ := ops_next 0 1 rfl hl_0
        clear hl_0
        obtain ⟨H1, hl_2⟩ := ops_next 1 2 rfl hl_1
        clear hl_1
        obtain ⟨H2, hl_3⟩ := ops_next 2 3 rfl hl_2
        clear hl_2
        obtain ⟨H3, hl_4⟩ := ops_next 3 4 rfl hl_3
        clear hl_3
        obtain ⟨H4, hl_5⟩ := ops_next 4 5 rfl hl_4
        clear hl_4
        obtain ⟨H5, hl_6⟩ := ops_next 5 6 rfl hl_5
        clear hl_5
        obtain ⟨H6, hl_7⟩ := ops_next 6 7 rfl hl_6
        clear hl_6
        obtain ⟨H7, hl_8⟩ := ops_next 7 8 rfl hl_7
        clear hl_7
        obtain ⟨H8, hl_9⟩ := ops_next 8 9 rfl hl_8
        clear hl_8
        obtain ⟨H9, hl_10⟩ := ops_next 9 10 rfl hl_9
        clear hl_9
        obtain ⟨H10, hl_11⟩ := ops_next 10 11 rfl hl_10
        clear hl_10
        obtain ⟨H11, hl_12⟩ := ops_next 11 12 rfl hl_11
        clear hl_11
        obtain ⟨H12, hl_13⟩ := ops_next 12 13 rfl hl_12
        clear hl_12
        obtain ⟨H13, hl_14⟩ := ops_next 13 14 rfl hl_13
        clear hl_13
        obtain ⟨H14, hl_15⟩ := ops_next 14 15 rfl hl_14
        clear hl_14
        obtain ⟨H15, hl_16⟩ := ops_next 15 16 rfl hl_15
        clear hl_15
        obtain ⟨H16, hl_17⟩ := ops_next 16 17 rfl hl_16
        clear hl_16
        obtain ⟨H17, hl_18⟩ := ops_next 17 18 rfl hl_17
        clear hl_17
        obtain ⟨H18, hl_19⟩ := ops_next 18 19 rfl hl_18
        clear hl_18
        obtain ⟨H19, hl_20⟩ := ops_next 19 20 rfl hl_19
        clear hl_19
        obtain ⟨H20, hl_21⟩ := ops_next 20 21 rfl hl_20
        clear hl_20
        obtain ⟨H21, hl_22⟩ := ops_next 21 22 rfl hl_21
        clear hl_21
        obtain ⟨H22, hl_23⟩ := ops_next 22 23 rfl hl_22
        clear hl_22
        obtain ⟨H23, hl_24⟩ := ops_next 23 24 rfl hl_23
        clear hl_23
        obtain ⟨H24, hl_25⟩ := ops_next 24 25 rfl hl_24
        clear hl_24
        obtain ⟨H25, hl_26⟩ := ops_next 25 26 rfl hl_25
        clear hl_25
        clear hl_26
        have x_0 : ext fr 0 = _ := congrArg (fun a => Act.eval a (.tmp 0)) HFR.out
        conv at x_0 => rhs; simp only [Act.eval, Array.getD_eq_getD_getElem?, List.getElem?_toArray, List.getElem?_cons_succ, List.getElem?_cons_zero, Option.getD_some]
        refine env_yes HSZ H0.out ?_ (fun w' hS => ?_) ?_
        rotate_left
        (go_simp
         rfl)
        refine env_yes HSZ H1.out ?_ (fun w' hS => ?_) ?_
        rotate_left
        (go_simp
         rfl)
        refine env_yes HSZ H2.out ?_ (fun w' hS => ?_) ?_
        rotate_left
        (go_simp
         rfl)
        refine env_yes HSZ H3.out ?_ (fun w' hS => ?_) ?_
        rotate_left
        (have h := (hS.cell (p := ⟨g, 3, none⟩) lgr).trans z3
         go_simp
         rfl)
        refine env_yes HSZ H4.out ?_ (fun w' hS => ?_) ?_
        rotate_left
        (go_simp
         rfl)
        refine env_yes HSZ H5.out ?_ (fun w' hS => ?_) ?_
        rotate_left
        (go_simp
         rfl)
        refine env_yes HSZ H6.out ?_ (fun w' hS => ?_) ?_
        rotate_left
        (go_simp
         rfl)
        refine env_yes HSZ H7.out ?_ (fun w' hS => ?_) ?_
        rotate_left
        (have h := (hS.cell (p := ⟨g, 1, none⟩) lgr).trans z1
         go_simp
         rfl)
        refine env_yes HSZ H8.out ?_ (fun w' hS => ?_) ?_
        rotate_left
        (go_simp
         rfl)
        refine env_yes HSZ H9.out ?_ (fun w' hS => ?_) ?_
        rotate_left
        (go_simp
         rfl)
        refine env_yes HSZ H10.out ?_ (fun w' hS => ?_) ?_
        rotate_left
        (go_simp
         rfl)
        refine env_off HSZ H11.out H10.out (by first | rfl | go_simp) ?_
        refine env_off HSZ H12.out H10.out (by first | rfl | go_simp) ?_
        refine env_off HSZ H13.out H10.out (by first | rfl | go_simp) ?_
        refine env_off HSZ H14.out H10.out (by first | rfl | go_simp) ?_
        refine env_off HSZ H15.out H10.out (by first | rfl | go_simp) ?_
        refine env_off HSZ H16.out H10.out (by first | rfl | go_simp) ?_
        refine env_off HSZ H17.out H10.out (by first | rfl | go_simp) ?_
        refine env_off HSZ H18.out H10.out (by first | rfl | go_simp) ?_
        refine env_off HSZ H19.out H10.out (by first | rfl | go_simp) ?_
        refine env_off HSZ H20.out H10.out (by first | rfl | go_simp) ?_
        refine env_off HSZ H21.out H10.out (by first | rfl | go_simp) ?_
        refine env_off HSZ H22.out H10.out (by first | rfl | go_simp) ?_
        refine env_off HSZ H23.out H10.out (by first | rfl | go_simp) ?_
        refine env_off HSZ H24.out H10.out (by first | rfl | go_simp) ?_
        refine env_yes HSZ H25.out ?_ (fun w' hS => ?_) ?_
        rotate_left
        (go_simp
         rfl)
        refine env_end ?_
        have hfr := HFR.out
        clear HFR HSZ H0 H1 H2 H3 H4 H5 H6 H7 H8 H9 H10 H11 H12 H13 H14 H15 H16 H17 H18 H19 H20 H21 H22 H23 H24 H25 x_0
        subst hfr
        simp only [putAll, Act.put, List.setIfInBounds_toArray, List.set_cons_succ, List.set_cons_zero]
        go_wp2_with fail
        go_end0
        exact ⟨rfl, by rw [HST.out]; exact ⟨_, _, _, HV'.out.below (Below.refl _ _).drew⟩, hbz.out.drew⟩
  · have hmn : ¬ (m : Int) < nw := by omega
    have hmn2 : (nw : Int) ≤ m := by omega
    have EA : sA = s := by rw [HSA.out, Int.toNat_natCast, actK_3, if_neg (by rw [← HNW.out]; omega)]
    go_enter Try.func23, Try.ntmps23
    go_wp2_with fail
    have bel : Below w.heap.size w (w.alloc (.cells #[.int .i64 3, .int .i64 (m : Int), .string t] 34)) := by go_grown
    have HV := Aside.mk (HW.out.below bel)
    have K1 := Aside.mk (Blk.new w 34 [.int .i64 3, .int .i64 (m : Int), .string t])
    have BB : Aside (Below base w (w.alloc (.cells #[.int .i64 3, .int .i64 (m : Int), .string t] 34))) := ⟨bel.mono HW.out.lt⟩
    obtain ⟨w1, hw1⟩ : ∃ x, x = w.alloc (.cells #[.int .i64 3, .int .i64 (m : Int), .string t] 34) := ⟨_, rfl⟩
    obtain ⟨gp, hgp⟩ : ∃ x, x = w.heap.size := ⟨_, rfl⟩
    have hgp1 : w1.heap.size = gp + 1 := by rw [hw1, hgp]; simp
    have HGP := Aside.mk hgp
    rw [← hw1] at HV K1 BB ⊢
    rw [← hgp] at K1 lg ⊢
    clear bel hw1 hgp y1 y2 y3 y5
    have y1 : w1.cell? ⟨g, 1, none⟩ = some (.slice A ng cap) := by have h := HV.out.blk.cell 1; rw [HNG.out]; exact h
    have y2 : w1.cell? ⟨g, 2, none⟩ = some (.int .i64 ak0) := by have h := HV.out.blk.cell 2; rw [HAK0.out]; exact h
    have y3 : w1.cell? ⟨g, 3, none⟩ = some (.int .i64 pk0) := by have h := HV.out.blk.cell 3; rw [HPK0.out]; exact h
    have y5 : w1.cell? ⟨g, 5, none⟩ = some (.slice B nw cB) := by have h := HV.out.blk.cell 5; rw [HNW.out]; exact h
    have a0 : w1.cell? ⟨gp, 0, none⟩ = some (.int .i64 3) := K1.out.cell 0
    have a1 : w1.cell? ⟨gp, 1, none⟩ = some (.int .i64 (m : Int)) := K1.out.cell 1
    have a2 : w1.cell? ⟨gp, 2, none⟩ = some (.string t) := K1.out.cell 2
    have lp : gp < w1.heap.size := K1.out.lt
    have lg1 : g < w1.heap.size := HV.out.blk.lt
    refine region_env [(0, true), (1, true), (2, true), (3, true), (4, true), (5, true), (6, true), (7, true), (8, true)] (fun w' => Below w1.heap.size w1 w') 164 rfl (by kernel_rfl) (by kernel_rfl) (fun _ _ d _ _ h => by cases d <;> exact h) ((Below.refl _ _).drew) (fun ops fr HFR HSZ hl => ?_)
    have hl_0 := ops_start hl
    clear hl
    obtain ⟨H0, hl_1⟩ := ops_next 0 1 rfl hl_0
    clear hl_0
    obtain ⟨H1, hl_2⟩ := ops_next 1 2 rfl hl_1
    clear hl_1
    obtain ⟨H2, hl_3⟩ := ops_next 2 3 rfl hl_2
    clear hl_2
    obtain ⟨H3, hl_4⟩ := ops_next 3 4 rfl hl_3
    clear hl_3
    obtain ⟨H4, hl_5⟩ := ops_next 4 5 rfl hl_4
    clear hl_4
    obtain ⟨H5, hl_6⟩ := ops_next 5 6 rfl hl_5
    clear hl_5
    obtain ⟨H6, hl_7⟩ := ops_next 6 7 rfl hl_6
    clear hl_6
    obtain ⟨H7, hl_8⟩ := ops_next 7 8 rfl hl_7
    clear hl_7
    obtain ⟨H8, hl_9⟩ := ops_next 8 9 rfl hl_8
    clear hl_8
    clear hl_9
    have x_3 : ext fr 3 = _ := congrArg (fun a => Act.eval a (.tmp 3)) HFR.out
    conv at x_3 => rhs; simp only [Act.eval, Array.getD_eq_getD_getElem?, List.getElem?_toArray, List.getElem?_cons_succ, List.getElem?_cons_zero, Option.getD_some]
    have x_0 : ext fr 0 = _ := congrArg (fun a => Act.eval a (.tmp 0)) HFR.out
    conv at x_0 => rhs; simp only [Act.eval, Array.getD_eq_getD_getElem?, List.getElem?_toArray, List.getElem?_cons_succ, List.getElem?_cons_zero, Option.getD_some]
    refine env_yes HSZ H0.out ?_ (fun w' hS => ?_) ?_
    rotate_left
    (go_simp
     rfl)
    refine env_yes HSZ H1.out ?_ (fun w' hS => ?_) ?_
    rotate_left
    (have h := (hS.cell (p := ⟨gp, 1, none⟩) lp).trans a1
     go_simp
     rfl)
    refine env_yes HSZ H2.out ?_ (fun w' hS => ?_) ?_
    rotate_left
    (go_simp
     rfl)
    refine env_yes HSZ H3.out ?_ (fun w' hS => ?_) ?_
    rotate_left
    (go_simp
     rfl)
    refine env_yes HSZ H4.out ?_ (fun w' hS => ?_) ?_
    rotate_left
    (go_simp
     rfl)
    refine env_yes HSZ H5.out ?_ (fun w' hS => ?_) ?_
    rotate_left
    (have h := (hS.cell (p := ⟨g, 5, none⟩) lg1).trans y5
     go_simp
     rfl)
    refine env_yes HSZ H6.out ?_ (fun w' hS => ?_) ?_
    rotate_left
    (go_simp
     rfl)
    refine env_yes HSZ H7.out ?_ (fun w' hS => ?_) ?_
    rotate_left
    (go_simp
     rfl)
    refine env_yes HSZ H8.out ?_ (fun w' hS => ?_) ?_
    rotate_left
    (go_simp
     rfl)
    refine env_end ?_
    have hfr := HFR.out
    clear HFR HSZ H0 H1 H2 H3 H4 H5 H6 H7 H8 x_3 x_0
    subst hfr
    simp only [putAll, Act.put, List.setIfInBounds_toArray, List.set_cons_succ, List.set_cons_zero]
    obtain ⟨w0, hw0⟩ : ∃ x, x = w1 := ⟨_, rfl⟩
    have HV0 := Aside.mk (HV.out.below (Below.refl _ _).drew)
    have K10 := Aside.mk K1.out.drew
    have BB0 := Aside.mk BB.out.drew
    have hgp2 : w1.drew.heap.size = gp + 1 := hgp1
    clear y1 y2 y3 y5 a0 a1 a2 lp lg1 HV K1 BB hgp1 hw0
    obtain ⟨w2, hw2⟩ : ∃ x, x = w1.drew := ⟨_, rfl⟩
    rw [← hw2] at HV0 K10 BB0 hgp2 ⊢
    clear hw2
    obtain ⟨w1, hw1⟩ : ∃ x, x = w2 := ⟨_, rfl⟩
    rw [← hw1] at HV0 K10 BB0 hgp2 ⊢
    have HV := HV0
    have K1 := K10
    have BB := BB0
    have hgp1 := hgp2
    clear hw1 HV0 K10 BB0 hgp2
    have y1 : w1.cell? ⟨g, 1, none⟩ = some (.slice A ng cap) := by have h := HV.out.blk.cell 1; rw [HNG.out]; exact h
    have y2 : w1.cell? ⟨g, 2, none⟩ = some (.int .i64 ak0) := by have h := HV.out.blk.cell 2; rw [HAK0.out]; exact h
    have y3 : w1.cell? ⟨g, 3, none⟩ = some (.int .i64 pk0) := by have h := HV.out.blk.cell 3; rw [HPK0.out]; exact h
    have y5 : w1.cell? ⟨g, 5, none⟩ = some (.slice B nw cB) := by have h := HV.out.blk.cell 5; rw [HNW.out]; exact h
    have a0 : w1.cell? ⟨gp, 0, none⟩ = some (.int .i64 3) := K1.out.cell 0
    have a1 : w1.cell? ⟨gp, 1, none⟩ = some (.int .i64 (m : Int)) := K1.out.cell 1
    have a2 : w1.cell? ⟨gp, 2, none⟩ = some (.string t) := K1.out.cell 2
    have lp : gp < w1.heap.size := K1.out.lt
    have lg1 : g < w1.heap.size := HV.out.blk.lt
    go_wp2_with fail
    have HZ : Aside (LkAt w1 base g 57 win sA) := ⟨by rw [EA]; exact ⟨_, _, _, HV.out⟩⟩
    have BZ := BB
    clear y1 y2 y3 y5 a0 a1 a2 EA
    obtain ⟨N9, hN9⟩ : ∃ N, N = sA.given.length := ⟨_, rfl⟩
    have HN9 := Aside.mk hN9
    have hN9b : N9 ≤ 1000000 := by have := OKA.out.given; omega
    clear hN9
    go_wp2_with fail
    go_loopw [] (fun wr => ∃ s' : Lk, Aside (LkAt wr base g 57 win s') ∧ Aside (Below base w wr) ∧ Aside (s9 = fillK win (s'.given.length - s'.packed) s') ∧ Aside (LkOK KK s') ∧ Aside (s'.given.length = N9)) (fun wr => N9 - natAt wr g 3)
    case atStart => exact ⟨sA, HZ, BZ, HR, OKA, ⟨HN9.out.symm⟩⟩
    case round =>
      obtain ⟨s', hat, hbz, hr9, hok, hgn⟩ := hrel
      clear HZ BZ HR OKA
      obtain ⟨vg', vt', vw', hv'⟩ := hat.out
      obtain ⟨A', cap', rfl, hcap', -⟩ := own_shape hv'.og
      have HV' := Aside.mk hv'
      have z0 := hv'.blk.cell 0
      have z1 := hv'.blk.cell 1
      have z2 := hv'.blk.cell 2
      have z3 := hv'.blk.cell 3
      simp only [List.getElem?_cons_zero, List.getElem?_cons_succ] at z0 z1 z2 z3
      have lgr : g < wr.heap.size := hv'.blk.lt
      rw [hgn.out] at z1 hcap'
      have hpk : s'.packed ≤ N9 := by rw [← hgn.out]; exact hok.out.packed
      have hak : s'.acked ≤ s'.packed := hok.out.acked
      have hmz : Aside (natAt wr g 3 = s'.packed) := ⟨natAt_of z3⟩
      obtain ⟨pk, hpe⟩ : ∃ pk, pk = s'.packed := ⟨_, rfl⟩
      obtain ⟨ak, hae⟩ : ∃ ak, ak = s'.acked := ⟨_, rfl⟩
      have HPE := Aside.mk hpe
      have HAE := Aside.mk hae
      rw [← hpe] at z3 hpk hak hmz
      rw [← hae] at z2 hak
      have hwr : IntKind.i64.wrap ((ak : Int) + (win : Int)) = (ak : Int) + (win : Int) := by rw [IntKind.wrap_i64]; omega
      clear hv' hpe hae hat
      by_cases c1 : (pk : Int) < N9
      · by_cases c2 : (pk : Int) < (ak : Int) + win
        · have HGO : Aside (s9 = fillK win ((stepK s').given.length - (stepK s').packed) (stepK s')) := ⟨by rw [hr9.out]; exact fillK_go (by rw [hgn.out, ← HPE.out]; omega) (by rw [← HPE.out, ← HAE.out]; omega)⟩
          have HOK2 : Aside (LkOK KK (stepK s')) := ⟨hok.out.step (by rw [hgn.out, ← HPE.out]; omega)⟩
          go_wp2_with fail
          refine region_env [(0, true), (1, true), (2, true), (3, true), (4, true), (5, true), (6, true), (7, true), (8, true), (9, true), (10, true), (11, true), (12, true), (13, true), (14, true), (15, true), (16, true), (17, true), (18, true), (19, true), (20, true), (21, true), (22, true), (23, true), (24, true), (25, true)] (fun w' => Below wr.heap.size wr w') 164 rfl (by kernel_rfl) (by kernel_rfl) (fun _ _ d _ _ h => by cases d <;> exact h) ((Below.refl _ _).drew) (fun ops fr HFR HSZ hl => ?_)
          have hl_0 := ops_start hl
          clear hl
          obtain ⟨H0, hl_1⟩ := ops_next 0 1 rfl hl_0
          clear hl_0
          obtain ⟨H1, hl_2⟩ := ops_next 1 2 rfl hl_1
          clear hl_1
          obtain ⟨H2, hl_3⟩ := ops_next 2 3 rfl hl_2
          clear hl_2
          obtain ⟨H3, hl_4⟩ := ops_next 3 4 rfl hl_3
          clear hl_3
          obtain ⟨H4, hl_5⟩ := ops_next 4 5 rfl hl_4
          clear hl_4
          obtain ⟨H5, hl_6⟩ := ops_next 5 6 rfl hl_5
          clear hl_5
          obtain ⟨H6, hl_7⟩ := ops_next 6 7 rfl hl_6
          clear hl_6
          obtain ⟨H7, hl_8⟩ := ops_next 7 8 rfl hl_7
          clear hl_7
          obtain ⟨H8, hl_9⟩ := ops_next 8 9 rfl hl_8
          clear hl_8
          obtain ⟨H9, hl_10⟩ := ops_next 9 10 rfl hl_9
          clear hl_9
          obtain ⟨H10, hl_11⟩ := ops_next 10 11 rfl hl_10
          clear hl_10
          obtain ⟨H11, hl_12⟩ := ops_next 11 12 rfl hl_11
          clear hl_11
          obtain ⟨H12, hl_13⟩ := ops_next 12 13 rfl hl_12
          clear hl_12
          obtain ⟨H13, hl_14⟩ := ops_next 13 14 rfl hl_13
          clear hl_13
          obtain ⟨H14, hl_15⟩ := ops_next 14 15 rfl hl_14
          clear hl_14
          obtain ⟨H15, hl_16⟩ := ops_next 15 16 rfl hl_15
          clear hl_15
          obtain ⟨H16, hl_17⟩ := ops_next 16 17 rfl hl_16
          clear hl_16
          obtain ⟨H17, hl_18⟩ := ops_next 17 18 rfl hl_17
          clear hl_17
          obtain ⟨H18, hl_19⟩ := ops_next 18 19 rfl hl_18
          clear hl_18
          obtain ⟨H19, hl_20⟩ := ops_next 19 20 rfl hl_19
          clear hl_19
          obtain ⟨H20, hl_21⟩ := ops_next 20 21 rfl hl_20
          clear hl_20
          obtain ⟨H21, hl_22⟩ := ops_next 21 22 rfl hl_21
          clear hl_21
          obtain ⟨H22, hl_23⟩ := ops_next 22 23 rfl hl_22
          clear hl_22
          obtain ⟨H23, hl_24⟩ := ops_next 23 24 rfl hl_23
          clear hl_23
          obtain ⟨H24, hl_25⟩ := ops_next 24 25 rfl hl_24
          clear hl_24
          obtain ⟨H25, hl_26⟩ := ops_next 25 26 rfl hl_25
          clear hl_25
          clear hl_26
          have x_0 : ext fr 0 = _ := congrArg (fun a => Act.eval a (.tmp 0)) HFR.out
          conv at x_0 => rhs; simp only [Act.eval, Array.getD_eq_getD_getElem?, List.getElem?_toArray, List.getElem?_cons_succ, List.getElem?_cons_zero, Option.getD_some]
          refine env_yes HSZ H0.out ?_ (fun w' hS => ?_) ?_
          rotate_left
          (go_simp
           rfl)
          refine env_yes HSZ H1.out ?_ (fun w' hS => ?_) ?_
          rotate_left
          (go_simp
           rfl)
          refine env_yes HSZ H2.out ?_ (fun w' hS => ?_) ?_
          rotate_left
          (go_simp
           rfl)
          refine env_yes HSZ H3.out ?_ (fun w' hS => ?_) ?_
          rotate_left
          (have h := (hS.cell (p := ⟨g, 3, none⟩) lgr).trans z3
           go_simp
           rfl)
          refine env_yes HSZ H4.out ?_ (fun w' hS => ?_) ?_
          rotate_left
          (go_simp
           rfl)
          refine env_yes HSZ H5.out ?_ (fun w' hS => ?_) ?_
          rotate_left
          (go_simp
           rfl)
          refine env_yes HSZ H6.out ?_ (fun w' hS => ?_) ?_
          rotate_left
          (go_simp
           rfl)
          refine env_yes HSZ H7.out ?_ (fun w' hS => ?_) ?_
          rotate_left
          (have h := (hS.cell (p := ⟨g, 1, none⟩) lgr).trans z1
           go_simp
           rfl)
          refine env_yes HSZ H8.out ?_ (fun w' hS => ?_) ?_
          rotate_left
          (go_simp
           rfl)
          refine env_yes HSZ H9.out ?_ (fun w' hS => ?_) ?_
          rotate_left
          (go_simp
           rfl)
          refine env_yes HSZ H10.out ?_ (fun w' hS => ?_) ?_
          rotate_left
          (go_simp
           rfl)
          refine env_on HSZ H11.out H10.out (by first | rfl | go_simp) ?_ (fun w' hS => ?_) ?_
          rotate_left
          (go_simp
           rfl)
          refine env_on HSZ H12.out H10.out (by first | rfl | go_simp) ?_ (fun w' hS => ?_) ?_
          rotate_left
          (go_simp
           rfl)
          refine env_on HSZ H13.out H10.out (by first | rfl | go_simp) ?_ (fun w' hS => ?_) ?_
          rotate_left
          (go_simp
           rfl)
          refine env_on HSZ H14.out H10.out (by first | rfl | go_simp) ?_ (fun w' hS => ?_) ?_
          rotate_left
          (have h := (hS.cell (p := ⟨g, 3, none⟩) lgr).trans z3
           go_simp
           rfl)
          refine env_on HSZ H15.out H10.out (by first | rfl | go_simp) ?_ (fun w' hS => ?_) ?_
          rotate_left
          (go_simp
           rfl)
          refine env_on HSZ H16.out H10.out (by first | rfl | go_simp) ?_ (fun w' hS => ?_) ?_
          rotate_left
          (go_simp
           rfl)
          refine env_on HSZ H17.out H10.out (by first | rfl | go_simp) ?_ (fun w' hS => ?_) ?_
          rotate_left
          (go_simp
           rfl)
          refine env_on HSZ H18.out H10.out (by first | rfl | go_simp) ?_ (fun w' hS => ?_) ?_
          rotate_left
          (have h := (hS.cell (p := ⟨g, 2, none⟩) lgr).trans z2
           go_simp
           rfl)
          refine env_on HSZ H19.out H10.out (by first | rfl | go_simp) ?_ (fun w' hS => ?_) ?_
          rotate_left
          (go_simp
           rfl)
          refine env_on HSZ H20.out H10.out (by first | rfl | go_simp) ?_ (fun w' hS => ?_) ?_
          rotate_left
          (go_simp
           rfl)
          refine env_on HSZ H21.out H10.out (by first | rfl | go_simp) ?_ (fun w' hS => ?_) ?_
          rotate_left
          (go_simp
           rfl)
          refine env_on HSZ H22.out H10.out (by first | rfl | go_simp) ?_ (fun w' hS => ?_) ?_
          rotate_left
          (have h := (hS.cell (p := ⟨g, 0, none⟩) lgr).trans z0
           go_simp
           rfl)
          refine env_on HSZ H23.out H10.out (by first | rfl | go_simp) ?_ (fun w' hS => ?_) ?_
          rotate_left
          (go_simp
           rfl)
          refine env_on HSZ H24.out H10.out (by first | rfl | go_simp) ?_ (fun w' hS => ?_) ?_
          rotate_left
          (go_simp
           rfl)
          refine env_yes HSZ H25.out ?_ (fun w' hS => ?_) ?_
          rotate_left
          (go_simp
           rfl)
          refine env_end ?_
          have hfr := HFR.out
          clear HFR HSZ H0 H1 H2 H3 H4 H5 H6 H7 H8 H9 H10 H11 H12 H13 H14 H15 H16 H17 H18 H19 H20 H21 H22 H23 H24 H25 x_0
          subst hfr
          simp only [putAll, Act.put, List.setIfInBounds_toArray, List.set_cons_succ, List.set_cons_zero]
          have z3d : wr.drew.cell? ⟨g, 3, none⟩ = some (.int .i64 pk) := z3
          go_wp2_with fail
          refine (sPack base g win pk s' _ (show LkAt wr.drew base g 57 win s' from ⟨_, _, _, HV'.out.below (Below.refl _ _).drew⟩) (by rw [hgn.out]; omega) (by rw [hgn.out]; omega) hok.out.texts hok.out.way).mono ?_
          rintro e w5 ⟨rfl, hk5, hb5⟩
          obtain ⟨vg5, vt5, vw5, hv5⟩ := hk5
          have hsame := packK_given pk s'
          have q3 := hv5.blk.cell 3
          have q3f := hv5.blk.free 3
          simp only [List.getElem?_cons_zero, List.getElem?_cons_succ] at q3
          rw [hsame.2.2.1, ← HPE.out] at q3
          have lg5 : g < w5.heap.size := hv5.blk.lt
          have HS5 : Aside (LkAt (w5.setCell ⟨g, 3, none⟩ (.int .i64 ((pk : Int) + 1))) base g 57 win (stepK s')) := ⟨by
            have h := hv5.setInts (packK pk s').acked (pk + 1) (hv5.blk.set 3 (.int .i64 ((pk : Int) + 1))) (fun b hb hg => heap_far hg)
            unfold stepK
            rw [← HPE.out]
            exact ⟨_, _, _, h⟩⟩
          have HB5 : Aside (Below base w (w5.setCell ⟨g, 3, none⟩ (.int .i64 ((pk : Int) + 1)))) := ⟨(hbz.out.drew.trans hb5).setCell hv5.hb _⟩
          have hm5 : Aside (natAt (w5.setCell ⟨g, 3, none⟩ (.int .i64 ((pk : Int) + 1))) g 3 = pk + 1) := ⟨natAt_of (n := pk + 1) (World.cell?_setCell_same _ _ _ q3)⟩
          clear hv5 hb5 hsame z0 z1 z2 z3 z3d hr9 hok hbz
          go_wp2_with fail
          go_roundw
          case rel => exact ⟨stepK s', HS5, HB5, HGO, HOK2, ⟨by rw [stepK_given]; exact hgn.out⟩⟩
          case measure => rw [hm5.out, hmz.out]; omega
        · have HST : Aside (s9 = s') := ⟨by rw [hr9.out]; exact fillK_stop (by rw [← HPE.out, ← HAE.out]; omega)⟩
          have c2n : (ak : Int) + win ≤ pk := by omega
          have c2m : ak + win ≤ pk := by omega
          go_wp2_with fail
          refine region_env [(0, true), (1, true), (2, true), (3, true), (4, true), (5, true), (6, true), (7, true), (8, true), (9, true), (10, true), (11, true), (12, true), (13, true), (14, true), (15, true), (16, true), (17, true), (18, true), (19, true), (20, true), (21, true), (22, true), (23, true), (24, true), (25, true)] (fun w' => Below wr.heap.size wr w') 164 rfl (by kernel_rfl) (by kernel_rfl) (fun _ _ d _ _ h => by cases d <;> exact h) ((Below.refl _ _).drew) (fun ops fr HFR HSZ hl => ?_)
          have hl_0 := ops_start hl
          clear hl
          obtain ⟨H0, hl_1⟩ := ops_next 0 1 rfl hl_0
          clear hl_0
          obtain ⟨H1, hl_2⟩ := ops_next 1 2 rfl hl_1
          clear hl_1
          obtain ⟨H2, hl_3⟩ := ops_next 2 3 rfl hl_2
          clear hl_2
          obtain ⟨H3, hl_4⟩ := ops_next 3 4 rfl hl_3
          clear hl_3
          obtain ⟨H4, hl_5⟩ := ops_next 4 5 rfl hl_4
          clear hl_4
          obtain ⟨H5, hl_6⟩ := ops_next 5 6 rfl hl_5
          clear hl_5
          obtain ⟨H6, hl_7⟩ := ops_next 6 7 rfl hl_6
          clear hl_6
          obtain ⟨H7, hl_8⟩ := ops_next 7 8 rfl hl_7
          clear hl_7
          obtain ⟨H8, hl_9⟩ := ops_next 8 9 rfl hl_8
          clear hl_8
          obtain ⟨H9, hl_10⟩ := ops_next 9 10 rfl hl_9
          clear hl_9
          obtain ⟨H10, hl_11⟩ := ops_next 10 11 rfl hl_10
          clear hl_10
          obtain ⟨H11, hl_12⟩ := ops_next 11 12 rfl hl_11
          clear hl_11
          obtain ⟨H12, hl_13⟩ := ops_next 12 13 rfl hl_12
          clear hl_12
          obtain ⟨H13, hl_14⟩ := ops_next 13 14 rfl hl_13
          clear hl_13
          obtain ⟨H14, hl_15⟩ := ops_next 14 15 rfl hl_14
          clear hl_14
          obtain ⟨H15, hl_16⟩ := ops_next 15 16 rfl hl_15
          clear hl_15
          obtain ⟨H16, hl_17⟩ := ops_next 16 17 rfl hl_16
          clear hl_16
          obtain ⟨H17, hl_18⟩ := ops_next 17 18 rfl hl_17
          clear hl_17
          obtain ⟨H18, hl_19⟩ := ops_next 18 19 rfl hl_18
          clear hl_18
          obtain ⟨H19, hl_20⟩ := ops_next 19 20 rfl hl_19
          clear hl_19
          obtain ⟨H20, hl_21⟩ := ops_next 20 21 rfl hl_20
          clear hl_20
          obtain ⟨H21, hl_22⟩ := ops_next 21 22 rfl hl_21
          clear hl_21
          obtain ⟨H22, hl_23⟩ := ops_next 22 23 rfl hl_22
          clear hl_22
          obtain ⟨H23, hl_24⟩ := ops_next 23 24 rfl hl_23
          clear hl_23
          obtain ⟨H24, hl_25⟩ := ops_next 24 25 rfl hl_24
          clear hl_24
          obtain ⟨H25, hl_26⟩ := ops_next 25 26 rfl hl_25
          clear hl_25
          clear hl_26
          have x_0 : ext fr 0 = _ := congrArg (fun a => Act.eval a (.tmp 0)) HFR.out
          conv at x_0 => rhs; simp only [Act.eval, Array.getD_eq_getD_getElem?, List.getElem?_toArray, List.getElem?_cons_succ, List.getElem?_cons_zero, Option.getD_some]
          refine env_yes HSZ H0.out ?_ (fun w' hS => ?_) ?_
          rotate_left
          (go_simp
           rfl)
          refine env_yes HSZ H1.out ?_ (fun w' hS => ?_) ?_
          rotate_left
          (go_simp
           rfl)
          refine env_yes HSZ H2.out ?_ (fun w' hS => ?_) ?_
          rotate_left
          (go_simp
           rfl)
          refine env_yes HSZ H3.out ?_ (fun w' hS => ?_) ?_
          rotate_left
          (have h := (hS.cell (p := ⟨g, 3, none⟩) lgr).trans z3
           go_simp
           rfl)
          refine env_yes HSZ H4.out ?_ (fun w' hS => ?_) ?_
          rotate_left
          (go_simp
           rfl)
          refine env_yes HSZ H5.out ?_ (fun w' hS => ?_) ?_
          rotate_left
          (go_simp
           rfl)
          refine env_yes HSZ H6.out ?_ (fun w' hS => ?_) ?_
          rotate_left
          (go_simp
           rfl)
          refine env_yes HSZ H7.out ?_ (fun w' hS => ?_) ?_
          rotate_left
          (have h := (hS.cell (p := ⟨g, 1, none⟩) lgr).trans z1
           go_simp
           rfl)
          refine env_yes HSZ H8.out ?_ (fun w' hS => ?_) ?_
          rotate_left
          (go_simp
           rfl)
          refine env_yes HSZ H9.out ?_ (fun w' hS => ?_) ?_
          rotate_left
          (go_simp
           rfl)
          refine env_yes HSZ H10.out ?_ (fun w' hS => ?_) ?_
          rotate_left
          (go_simp
           rfl)
          refine env_on HSZ H11.out H10.out (by first | rfl | go_simp) ?_ (fun w' hS => ?_) ?_
          rotate_left
          (go_simp
           rfl)
          refine env_on HSZ H12.out H10.out (by first | rfl | go_simp) ?_ (fun w' hS => ?_) ?_
          rotate_left
          (go_simp
           rfl)
          refine env_on HSZ H13.out H10.out (by first | rfl | go_simp) ?_ (fun w' hS => ?_) ?_
          rotate_left
          (go_simp
           rfl)
          refine env_on HSZ H14.out H10.out (by first | rfl | go_simp) ?_ (fun w' hS => ?_) ?_
          rotate_left
          (have h := (hS.cell (p := ⟨g, 3, none⟩) lgr).trans z3
           go_simp
           rfl)
          refine env_on HSZ H15.out H10.out (by first | rfl | go_simp) ?_ (fun w' hS => ?_) ?_
          rotate_left
          (go_simp
           rfl)
          refine env_on HSZ H16.out H10.out (by first | rfl | go_simp) ?_ (fun w' hS => ?_) ?_
          rotate_left
          (go_simp
           rfl)
          refine env_on HSZ H17.out H10.out (by first | rfl | go_simp) ?_ (fun w' hS => ?_) ?_
          rotate_left
          (go_simp
           rfl)
          refine env_on HSZ H18.out H10.out (by first | rfl | go_simp) ?_ (fun w' hS => ?_) ?_
          rotate_left
          (have h := (hS.cell (p := ⟨g, 2, none⟩) lgr).trans z2
           go_simp
           rfl)
          refine env_on HSZ H19.out H10.out (by first | rfl | go_simp) ?_ (fun w' hS => ?_) ?_
          rotate_left
          (go_simp
           rfl)
          refine env_on HSZ H20.out H10.out (by first | rfl | go_simp) ?_ (fun w' hS => ?_) ?_
          rotate_left
          (go_simp
           rfl)
          refine env_on HSZ H21.out H10.out (by first | rfl | go_simp) ?_ (fun w' hS => ?_) ?_
          rotate_left
          (go_simp
           rfl)
          refine env_on HSZ H22.out H10.out (by first | rfl | go_simp) ?_ (fun w' hS => ?_) ?_
          rotate_left
          (have h := (hS.cell (p := ⟨g, 0, none⟩) lgr).trans z0
           go_simp
           rfl)
          refine env_on HSZ H23.out H10.out (by first | rfl | go_simp) ?_ (fun w' hS => ?_) ?_
          rotate_left
          (go_simp
           rfl)
          refine env_on HSZ H24.out H10.out (by first | rfl | go_simp) ?_ (fun w' hS => ?_) ?_
          rotate_left
          (go_simp
           rfl)
          refine env_yes HSZ H25.out ?_ (fun w' hS => ?_) ?_
          rotate_left
          (go_simp
           rfl)
          refine env_end ?_
          have hfr := HFR.out
          clear HFR HSZ H0 H1 H2 H3 H4 H5 H6 H7 H8 H9 H10 H11 H12 H13 H14 H15 H16 H17 H18 H19 H20 H21 H22 H23 H24 H25 x_0
          subst hfr
          simp only [putAll, Act.put, List.setIfInBounds_toArray, List.set_cons_succ, List.set_cons_zero]
          go_wp2_with fail
          go_end0
          exact ⟨rfl, by rw [HST.out]; exact ⟨_, _, _, HV'.out.below (Below.refl _ _).drew⟩, hbz.out.drew⟩
      · have HST : Aside (s9 = s') := ⟨by rw [hr9.out]; exact fillK_stop (by rw [← HPE.out, hgn.out]; omega)⟩
        have c1n : (N9 : Int) ≤ pk := by omega
        have c1m : N9 ≤ pk := by omega
        go_wp2_with fail
        refine region_env [(0, true), (1, true), (2, true), (3, true), (4, true), (5, true), (6, true), (7, true), (8, true), (9, true), (10, true), (11, true), (12, true), (13, true), (14, true), (15, true), (16, true), (17, true), (18, true), (19, true), (20, true), (21, true), (22, true), (23, true), (24, true), (25, true)] (fun w' => Below wr.heap.size wr w') 164 rfl (by kernel_rfl) (by kernel_rfl) (fun _ _ d _ _ h => by cases d <;> exact h) ((Below.refl _ _).drew) (fun ops fr HFR HSZ hl => ?_)
        have hl_0 := ops_start hl
        clear hl
        obtain ⟨H0, hl_1⟩ := ops_next 0 1 rfl hl_0
        clear hl_0
        obtain ⟨H1, hl_2⟩ := ops_next 1 2 rfl hl_1
        clear hl_1
        obtain ⟨H2, hl_3⟩ := ops_next 2 3 rfl hl_2
        clear hl_2
        obtain ⟨H3, hl_4⟩ := ops_next 3 4 rfl hl_3
        clear hl_3
        obtain ⟨H4, hl_5⟩ := ops_next 4 5 rfl hl_4
        clear hl_4
        obtain ⟨H5, hl_6⟩ := ops_next 5 6 rfl hl_5
        clear hl_5
        obtain ⟨H6, hl_7⟩ := ops_next 6 7 rfl hl_6
        clear hl_6
        obtain ⟨H7, hl_8⟩ := ops_next 7 8 rfl hl_7
        clear hl_7
        obtain ⟨H8, hl_9⟩ := ops_next 8 9 rfl hl_8
        clear hl_8
        obtain ⟨H9, hl_10⟩ := ops_next 9 10 rfl hl_9
        clear hl_9
        obtain ⟨H10, hl_11⟩ := ops_next 10 11 rfl hl_10
        clear hl_10
        obtain ⟨H11, hl_12⟩ := ops_next 11 12 rfl hl_11
        clear hl_11
        obtain ⟨H12, hl_13⟩ := ops_next 12 13 rfl hl_12
        clear hl_12
        obtain ⟨H13, hl_14⟩ := ops_next 13 14 rfl hl_13
        clear hl_13
        obtain ⟨H14, hl_15⟩ := ops_next 14 15 rfl hl_14
        clear hl_14
        obtain ⟨H15, hl_16⟩ := ops_next 15 16 rfl hl_15
        clear hl_15
        obtain ⟨H16, hl_17⟩ := ops_next 16 17 rfl hl_16
        clear hl_16
        obtain ⟨H17, hl_18⟩ := ops_next 17 18 rfl hl_17
        clear hl_17
        obtain ⟨H18, hl_19⟩ := ops_next 18 19 rfl hl_18
        clear hl_18
        obtain ⟨H19, hl_20⟩ := ops_next 19 20 rfl hl_19
        clear hl_19
        obtain ⟨H20, hl_21⟩ := ops_next 20 21 rfl hl_20
        clear hl_20
        obtain ⟨H21, hl_22⟩ := ops_next 21 22 rfl hl_21
        clear hl_21
        obtain ⟨H22, hl_23⟩ := ops_next 22 23 rfl hl_22
        clear hl_22
        obtain ⟨H23, hl_24⟩ := ops_next 23 24 rfl hl_23
        clear hl_23
        obtain ⟨H24, hl_25⟩ := ops_next 24 25 rfl hl_24
        clear hl_24
        obtain ⟨H25, hl_26⟩ := ops_next 25 26 rfl hl_25
        clear hl_25
        clear hl_26
        have x_0 : ext fr 0 = _ := congrArg (fun a => Act.eval a (.tmp 0)) HFR.out
        conv at x_0 => rhs; simp only [Act.eval, Array.getD_eq_getD_getElem?, List.getElem?_toArray, List.getElem?_cons_succ, List.getElem?_cons_zero, Option.getD_some]
        refine env_yes HSZ H0.out ?_ (fun w' hS => ?_) ?_
        rotate_left
        (go_simp
         rfl)
        refine env_yes HSZ H1.out ?_ (fun w' hS => ?_) ?_
        rotate_left
        (go_simp
         rfl)
        refine env_yes HSZ H2.out ?_ (fun w' hS => ?_) ?_
        rotate_left
        (go_simp
         rfl)
        refine env_yes HSZ H3.out ?_ (fun w' hS => ?_) ?_
        rotate_left
        (have h := (hS.cell (p := ⟨g, 3, none⟩) lgr).trans z3
         go_simp
         rfl)
        refine env_yes HSZ H4.out ?_ (fun w' hS => ?_) ?_
        rotate_left
        (go_simp
         rfl)
        refine env_yes HSZ H5.out ?_ (fun w' hS => ?_) ?_
        rotate_left
        (go_simp
         rfl)
        refine env_yes HSZ H6.out ?_ (fun w' hS => ?_) ?_
        rotate_left
        (go_simp
         rfl)
        refine env_yes HSZ H7.out ?_ (fun w' hS => ?_) ?_
        rotate_left
        (have h := (hS.cell (p := ⟨g, 1, none⟩) lgr).trans z1
         go_simp
         rfl)
        refine env_yes HSZ H8.out ?_ (fun w' hS => ?_) ?_
        rotate_left
        (go_simp
         rfl)
        refine env_yes HSZ H9.out ?_ (fun w' hS => ?_) ?_
        rotate_left
        (go_simp
         rfl)
        refine env_yes HSZ H10.out ?_ (fun w' hS => ?_) ?_
        rotate_left
        (go_simp
         rfl)
        refine env_off HSZ H11.out H10.out (by first | rfl | go_simp) ?_
        refine env_off HSZ H12.out H10.out (by first | rfl | go_simp) ?_
        refine env_off HSZ H13.out H10.out (by first | rfl | go_simp) ?_
        refine env_off HSZ H14.out H10.out (by first | rfl | go_simp) ?_
        refine env_off HSZ H15.out H10.out (by first | rfl | go_simp) ?_
        refine env_off HSZ H16.out H10.out (by first | rfl | go_simp) ?_
        refine env_off HSZ H17.out H10.out (by first | rfl | go_simp) ?_
        refine env_off HSZ H18.out H10.out (by first | rfl | go_simp) ?_
        refine env_off HSZ H19.out H10.out (by first | rfl | go_simp) ?_
        refine env_off HSZ H20.out H10.out (by first | rfl | go_simp) ?_
        refine env_off HSZ H21.out H10.out (by first | rfl | go_simp) ?_
        refine env_off HSZ H22.out H10.out (by first | rfl | go_simp) ?_
        refine env_off HSZ H23.out H10.out (by first | rfl | go_simp) ?_
        refine env_off HSZ H24.out H10.out (by first | rfl | go_simp) ?_
        refine env_yes HSZ H25.out ?_ (fun w' hS => ?_) ?_
        rotate_left
        (go_simp
         rfl)
        refine env_end ?_
        have hfr := HFR.out
        clear HFR HSZ H0 H1 H2 H3 H4 H5 H6 H7 H8 H9 H10 H11 H12 H13 H14 H15 H16 H17 H18 H19 H20 H21 H22 H23 H24 H25 x_0
        subst hfr
        simp only [putAll, Act.put, List.setIfInBounds_toArray, List.set_cons_succ, List.set_cons_zero]
        go_wp2_with fail
        go_end0
        exact ⟨rfl, by rw [HST.out]; exact ⟨_, _, _, HV'.out.below (Below.refl _ _).drew⟩, hbz.out.drew⟩
end Go.Proofs.Ytlopbheahedofaa.Fn
